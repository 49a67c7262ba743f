/- Texts of this proof that belong together: SrcP, SmN, Tail, Spec, TxP, Shelf, TxE, TxS, TxL, TxY, ShelfP, TxV, TxU, TxQ, TxB, TxW, TxR, Eq, TxJ, TxO, TxX, TxN, TxLs. No condition. -/
import Derived.Test.YtkoaangakmpggaaGreatDoorB3
import Derived.StillTailTactics
import Derived.Still
import Derived.Deep.QuietTactic
import Derived.BigQuiet
import Derived.Deep.RegionHeld3
import Derived.StillTail
import Derived.Deep.Quiet
import Derived.Deep.RegionWith
import Derived.Lib.ItoaNum
import Derived.Lib.Join
import Derived.Lib.Split
import Derived.Lib.AtoiTie
import Derived.Lib.ParseIntBTie
import Derived.Shelf.Strings.Builder1
import Derived.Shelf.Strings.Builder2
import Derived.Shelf.Strings.OnBuilder
import Derived.Shelf.Small.Strs
import Derived.Shelf.Strings.BuilderF
import Derived.Shelf.Strings.BuilderK
import Derived.Shelf.Utf8.RuneCount
import Derived.Shelf.Strings.Builder2Cap
import Derived.Shelf.Strconv.Itoa0
import Derived.Shelf.Strconv.Itoa1
import Derived.Shelf.LaysM
import Derived.Shelf.Strconv.Itoa2
import Derived.Shelf.Strconv.Itoa3
import Derived.Shelf.Strconv.Itoa4
import Derived.Shelf.Strconv.Clone
import Derived.Shelf.Strconv.Lower
import Derived.Shelf.Strings.Search1
import Derived.Shelf.Strings.Search2
import Derived.Shelf.Strings.Search3
import Derived.Shelf.Strings.Cut
import Derived.Shelf.Strings.Count
import Derived.Shelf.Strings.Shaped
import Derived.Shelf.Strings.Prefix
import Derived.Shelf.Strings.Split
import Derived.Shelf.Strings.SplitShaped
import Derived.Shelf.Unicode.Decode
import Derived.Shelf.Strings.RuneCount
import Derived.Shelf.Strings.Explode
import Derived.Shelf.Unicode.DecodeSlow
import Derived.Shelf.Unicode.DecodeAny
import Derived.Test.YtkoaangakmpggaaGreatDoorProg
import Derived.Lib.LaidTab
import Derived.Lib.SmallJoins
import Derived.Shelf.Strconv.ParseIntEmpty
import Derived.Shelf.Strconv.SyntaxError
import Derived.Shelf.LaysC
import Derived.Shelf.Strconv.ToError
import Derived.Shelf.Strconv.ParseUint10
import Derived.Shelf.Strconv.ParseUint10Empty
import Derived.Shelf.Strconv.ParseUint10Any
import Derived.Shelf.Strconv.ParseInt10
import Derived.Shelf.Strconv.RangeError
import Derived.Shelf.Strconv.ToErrorRange
import Derived.Shelf.Strconv.ParseUintEmpty
import Derived.Shelf.Strconv.ParseUint10b64
import Derived.Shelf.Strconv.ParseUint10b32
import Derived.Shelf.Strconv.ParseUint10b16
import Derived.Shelf.Strconv.ParseUint10b8
import Derived.Shelf.Strconv.ParseUint10At
import Derived.Shelf.Strconv.ParseInt10At64
import Derived.Shelf.Strconv.ParseInt10At32
import Derived.Shelf.Strconv.ParseInt10At16
import Derived.Shelf.Strconv.ParseInt10At8
import Derived.Shelf.Strconv.ParseInt10All
import Derived.Shelf.Strconv.ParseIntPublic10
import Derived.Shelf.Strconv.ErrVarParseInt
import Derived.Lib.AtoiErrMem
import Derived.Lib.SplitLaws
import Derived.Lib.ConvBytes
section
/- What the laws on books draw: lists, books, numbers, orders. -/
namespace Go.Proofs.YtkoaangakmpggaaGreatDoor
open Go.RowKit Go.Proofs.YtkoaangakmpggaaGreatDoorW.PrintWords Go.Proofs.YtkoaangakmpggaaGreatDoorW.PrintMore
set_option linter.unusedVariables false
set_option linter.unusedSimpArgs false
set_option maxRecDepth 100000

/-- A drawn book. -/
def DrawnBk (w : World) (e : Ending) (w' : World) : Prop := ∃ b : Bk, e = .returned b.val ∧ vBook b = true ∧ b.ok ∧ Below w.heap.size w w'
/-- A drawn number. -/
def DrawnN (w : World) (n : Int) (e : Ending) (w' : World) : Prop := ∃ x : Int, e = .returned (.int .i64 x) ∧ 0 ≤ x ∧ x ≤ n - 1 ∧ Below w.heap.size w w'
/-- A drawn list of valid books. -/
def NewLB (w : World) (v : Value) (w' : World) : Prop := ∃ L : List Bk, kBk.R 44 w' w.heap.size (fun _ => True) v L ∧ VB L ∧ L.length ≤ 11
set_option maxHeartbeats 4000000 in
theorem P6List_c (A : Option Addr) (c : Nat) (Cd : List Int) (w : World) (hC : (Kd.int .u8).C w A Cd.length Cd) (hU : ∀ x, x ∈ Cd → 0 ≤ x ∧ x ≤ 255) :
    Calls Tryz.prog 5 #[.slice A Cd.length c] w (RetQ w (NewLB w)) := by
  have HF := Aside0.mk (l00From_c A c Cd w hC hU)
  clear hC hU
  go_enter Tryz.func5, Tryz.ntmps5
  go_wp2_with fail
  refine HF.out.mono ?_; rintro _ w1 ⟨rfl, hs1, hz1⟩
  have HZ1 := Aside0.mk hz1
  have HD := Aside0.mk (l01Drawn_c (w0 := w) (g := w.heap.size) (A := A) (c := c) (Cd := Cd) (at_ := 0) (by omega) w1 hs1)
  clear hs1 hz1
  go_wp2_with fail
  refine HD.out.mono ?_; rintro _ w2 ⟨v, L, a', rfl, hl, hr⟩
  have HB := Aside0.mk hr.src.below
  have HRW := Aside0.mk (show kBk.R 44 w2 w.heap.size (fun _ => True) v L from Kd.R_lower hr.row (by have := HZ1.out; omega))
  have HVB := Aside0.mk hr.ok
  clear hr
  go_wp2
  go_ret
  exact ⟨_, rfl, HB.out, L, HRW.out, HVB.out, hl⟩
set_option maxHeartbeats 2000000 in
theorem oneN_c {w0 : World} {g : Nat} {A : Option Addr} {c : Nat} {Cd : List Int} {at_ : Nat} (hat : at_ ≤ 999000) (n : Int) (hn0 : 0 ≤ n) (hn : n ≤ 10000) (w : World) (hs : Src w0 w g A c Cd at_) :
    Calls Tryz.prog 31 #[.pointer (some ⟨g, 0, none⟩), .int .i64 n] w (DrewB w0 w g A c Cd at_ 2) := by
  have HP := Aside0.mk (pick_c (w0 := w0) (g := g) (A := A) (c := c) (Cd := Cd) hat n hn0 hn w hs)
  clear hs
  go_enter Tryz.func31, Tryz.ntmps31
  go_wp2_with fail
  refine HP.out.mono ?_; rintro _ w1 ⟨x, a1, rfl, hx, ha1, hs1, hg1⟩
  have HG1 := Aside0.mk hg1
  have HS1 := Aside0.mk hs1
  clear hs1 hg1 hx
  go_wp2
  go_ret
  exact ⟨_, a1, rfl, ha1, HS1.out, HG1.out⟩
section
variable {ops : Array Oper} {rest : List Oper} {o : Oper} {a : Act} {Q : Exit → Act → World → Prop}
theorem i8_app {W : World} (base : Nat) (hbase : base ≤ W.heap.size) (hgd : o.guard = none) (s x : Operand) (ho : o.op = .call { callee := .builtin .append, args := #[s, x], argTypes := #[26, 26] }) (v : Value) (xs : List Int) (n : Int)
    (hs : a.eval s = v) (hx : a.eval x = .slice (some ⟨W.heap.size, 0, none⟩) 1 1) (HO : (Kd.int .i8).R 34 W base (fun _ => True) v xs) (hl : xs.length ≤ 2097152)
    (h : ∀ v1 w1, (Kd.int .i8).R 34 w1 base (fun _ => True) v1 (xs ++ [n]) → W.grownBy w1 v.ownBlock → wpList Tryz.prog ops Q rest (a.put o.dst v1) w1) :
    wpList Tryz.prog ops Q (o :: rest) a (W.alloc (.cells #[.int .i8 n] 34)) :=
  Kd.R_append (Kd.int .i8) (w0 := W) base hgd s x 26 34 (.int .i8 0) 1 ho Tryz.underlying26 (by kernel_rfl) rfl (by decide) (by decide) v xs n [.int .i8 n] (fun _ => True) (fun _ => False) hs hx rfl (fun _ h => h.elim) (fun _ _ => trivial) HO (Below.refl _ _) hbase (by omega)
    (fun v1 w1 h1 h2 h3 _ => h v1 w1 h1 h3)
end
theorem i8_keep {w w' : World} {base g : Nat} {v : Value} {L : List Int} (h : (Kd.int .i8).R 34 w base (fun _ => True) v L) (hg : w.grownBy w' (some g)) (hb : g < base) : (Kd.int .i8).R 34 w' base (fun _ => True) v L :=
  Kd.R_mono (Kd.R_grown (Kd.R_tight (kInt_E _) h) hg (fun k hk he => by have := Kd.R_base h k hk.symm; have := Option.some.inj he; omega)) (fun _ _ => trivial)
/-- An order under way, with a source. -/
structure OrdS (w0 w : World) (g : Nat) (A : Option Addr) (c : Nat) (Cd : List Int) (v : Value) (O : List Int) (at_ : Nat) (W : World) : Prop where
  src : Src w0 W g A c Cd at_
  row : (Kd.int .i8).R 34 W w.heap.size (fun _ => True) v O
  gw : g < w.heap.size
  sz : w.heap.size ≤ W.heap.size
section
variable {w0 w W W' : World} {g : Nat} {A : Option Addr} {c : Nat} {Cd : List Int} {v v' : Value} {O O' : List Int} {at_ a' : Nat}
theorem OrdS.pick (h : OrdS w0 w g A c Cd v O at_ W) (hs : Src w0 W' g A c Cd a') (hg : W.grownBy W' (some g)) : OrdS w0 w g A c Cd v O a' W' :=
  ⟨hs, i8_keep h.row hg h.gw, h.gw, Nat.le_trans h.sz hg.size⟩
theorem OrdS.wrote (h : OrdS w0 w g A c Cd v O at_ W) (hr : (Kd.int .i8).R 34 W' w.heap.size (fun _ => True) v' O') (hg : W.grownBy W' v.ownBlock) : OrdS w0 w g A c Cd v' O' at_ W' := by
  have hb := Kd.R_base h.row
  have hgw := h.gw
  exact ⟨h.src.grown hg (fun b e => by have := hb b e; omega), hr, hgw, Nat.le_trans h.sz hg.size⟩
end
/-- A drawn order. -/
def NewOrd (w : World) (v : Value) (w' : World) : Prop := ∃ O : List Int, (Kd.int .i8).R 34 w' w.heap.size (fun _ => True) v O ∧ OrU O 7 ∧ 0 < O.length
set_option maxHeartbeats 8000000 in
theorem P6Order_c (A : Option Addr) (c : Nat) (Cd : List Int) (w : World) (hC : (Kd.int .u8).C w A Cd.length Cd) (hU : ∀ x, x ∈ Cd → 0 ≤ x ∧ x ≤ 255) :
    Calls Tryz.prog 6 #[.slice A Cd.length c] w (RetQ w (NewOrd w)) := by
  have HF := Aside0.mk (l00From_c A c Cd w hC hU)
  clear hC hU
  go_enter Tryz.func6, Tryz.ntmps6
  go_wp2_with fail
  refine HF.out.mono ?_; rintro _ w1 ⟨rfl, hs1, hz1⟩
  have HZ1 := Aside0.mk hz1
  have HR0 := Aside0.mk (show OrdS w w1 w.heap.size A c Cd (.slice (some ⟨w1.heap.size, 0, none⟩) 0 0) [] 0 (w1.alloc (.cells #[] 34)) from ⟨hs1.step (balloc (Below.refl _ _) _), R_zero (Kd.int .i8) 34 w1 w1.heap.size (fun _ => True) (Nat.le_refl _) trivial, by omega, by simp⟩)
  clear hs1 hz1
  go_wp2_with fail
  go_loopg [4, 5] 6 (fun gk v4 v5 wr => ∃ (f : Nat) (O : List Int) (a : Nat), f + gk = 7 ∧ 1 ≤ f ∧ v5 = .int .i8 f ∧ Aside0 (OrU O f ∧ (f = 7 → 0 < O.length) ∧ a ≤ 4 * f) ∧ Aside0 (OrdS w w1 w.heap.size A c Cd v4 O a wr))
  case atStart => exact ⟨1, [], 0, by omega, by omega, rfl, ⟨OrU.nil 1, by omega, by omega⟩, HR0⟩
  case round =>
    clear HR0
    obtain ⟨f, O, a, hk, h1, rfl, hO, HR⟩ := hrel
    have HK := Aside0.mk hk
    obtain ⟨A4, c4, rfl⟩ := Kd.R_slice HR.out.row
    by_cases hlt : f ≤ 6
    · have hf6 : (f : Int) ≤ 6 := by omega
      have hw1 : IntKind.i8.wrap ((f : Int) + 1) = (f : Int) + 1 := by simp only [IntKind.wrap, IntKind.bits, IntKind.signed]; simp; omega
      have hw2 : IntKind.i8.wrap (-(f : Int)) = -(f : Int) := by simp only [IntKind.wrap, IntKind.bits, IntKind.signed]; simp; omega
      have HLT := Aside0.mk hlt
      clear hk
      go_wp2_with fail
      refine (oneN_c (by have := hO.out.2.2; have := HLT.out; omega) 2 (by omega) (by omega) _ HR.out.src).mono ?_; rintro _ wa ⟨b, a1, rfl, ha1, hs, hg⟩
      have HRa := Aside0.mk (HR.out.pick hs hg)
      clear hs hg HR
      cases b
      · by_cases h6 : f = 6
        · have e6 : ((f : Int) == 6) = true := by simp; omega
          have H6 := Aside0.mk h6
          clear h6
          by_cases hz : O.length = 0
          · have ez : ((O.length : Int) == 0) = true := by rw [beq_iff_eq]; omega
            clear hz
            go_wp2_with fail
            refine (oneN_c (by have := hO.out.2.2; have := HLT.out; omega) 3 (by omega) (by omega) _ HRa.out.src).mono ?_; rintro _ wb ⟨b3, a2, rfl, ha2, hs, hg⟩
            have HRb := Aside0.mk (HRa.out.pick hs hg)
            clear hs hg
            cases b3
            · go_wp2_with (at_builtin; refine i8_app (W := wb) w1.heap.size HRb.out.sz rfl (.tmp 31) (.tmp 33) rfl _ O (f : Int) rfl rfl HRb.out.row (by have := hO.out.1.len (by omega); omega) ?_; intro v9 w9 hR9 hg9; have HR9 := Aside0.mk (HRb.out.wrote hR9 hg9); clear hR9 hg9)
              go_roundg (gk - 1)
              case measure => have := HK.out; omega
              case rel => exact ⟨f + 1, O ++ [(f : Int)], a2, by have := HK.out; omega, by omega, by go_num, ⟨by have := hO.out.1.snoc (x := (f : Int)) (by omega) (by omega) (.inl rfl); simpa using this, fun _ => by simp, by have := hO.out.2.2; omega⟩, HR9⟩
            · go_wp2_with (at_builtin; refine i8_app (W := wb) w1.heap.size HRb.out.sz rfl (.tmp 26) (.tmp 29) rfl _ O (-(f : Int)) rfl rfl HRb.out.row (by have := hO.out.1.len (by omega); omega) ?_; intro v9 w9 hR9 hg9; have HR9 := Aside0.mk (HRb.out.wrote hR9 hg9); clear hR9 hg9)
              go_roundg (gk - 1)
              case measure => have := HK.out; omega
              case rel => exact ⟨f + 1, O ++ [-(f : Int)], a2, by have := HK.out; omega, by omega, by go_num, ⟨by have := hO.out.1.snoc (x := -(f : Int)) (by omega) (by omega) (.inr rfl); simpa using this, fun _ => by simp, by have := hO.out.2.2; omega⟩, HR9⟩
          · have ez : ((O.length : Int) == 0) = false := beq_eq_false_iff_ne.2 (by omega)
            have HZ0 := Aside0.mk (show 0 < O.length by omega)
            clear hz
            go_wp2_with fail
            go_roundg (gk - 1)
            case measure => have := HK.out; omega
            case rel => exact ⟨f + 1, O, a1, by have := HK.out; omega, by omega, by go_num, ⟨by have := hO.out.1.skip; simpa using this, fun e => HZ0.out, by have := hO.out.2.2; omega⟩, HRa⟩
        · have e6 : ((f : Int) == 6) = false := by simp; omega
          have H6 := Aside0.mk h6
          clear h6
          go_wp2_with fail
          go_roundg (gk - 1)
          case measure => have := HK.out; omega
          case rel => exact ⟨f + 1, O, a1, by have := HK.out; omega, by omega, by go_num, ⟨by have := hO.out.1.skip; simpa using this, fun e => absurd (show f = 6 by omega) H6.out, by have := hO.out.2.2; omega⟩, HRa⟩
      · skip
        go_wp2_with fail
        refine (oneN_c (by have := hO.out.2.2; have := HLT.out; omega) 3 (by omega) (by omega) _ HRa.out.src).mono ?_; rintro _ wb ⟨b3, a2, rfl, ha2, hs, hg⟩
        have HRb := Aside0.mk (HRa.out.pick hs hg)
        clear hs hg
        cases b3
        · go_wp2_with (at_builtin; refine i8_app (W := wb) w1.heap.size HRb.out.sz rfl (.tmp 31) (.tmp 33) rfl _ O (f : Int) rfl rfl HRb.out.row (by have := hO.out.1.len (by omega); omega) ?_; intro v9 w9 hR9 hg9; have HR9 := Aside0.mk (HRb.out.wrote hR9 hg9); clear hR9 hg9)
          go_roundg (gk - 1)
          case measure => have := HK.out; omega
          case rel => exact ⟨f + 1, O ++ [(f : Int)], a2, by have := HK.out; omega, by omega, by go_num, ⟨by have := hO.out.1.snoc (x := (f : Int)) (by omega) (by omega) (.inl rfl); simpa using this, fun _ => by simp, by have := hO.out.2.2; omega⟩, HR9⟩
        · go_wp2_with (at_builtin; refine i8_app (W := wb) w1.heap.size HRb.out.sz rfl (.tmp 26) (.tmp 29) rfl _ O (-(f : Int)) rfl rfl HRb.out.row (by have := hO.out.1.len (by omega); omega) ?_; intro v9 w9 hR9 hg9; have HR9 := Aside0.mk (HRb.out.wrote hR9 hg9); clear hR9 hg9)
          go_roundg (gk - 1)
          case measure => have := HK.out; omega
          case rel => exact ⟨f + 1, O ++ [-(f : Int)], a2, by have := HK.out; omega, by omega, by go_num, ⟨by have := hO.out.1.snoc (x := -(f : Int)) (by omega) (by omega) (.inr rfl); simpa using this, fun _ => by simp, by have := hO.out.2.2; omega⟩, HR9⟩
    · have hf6 : ¬ (f : Int) ≤ 6 := by omega
      obtain rfl : f = 7 := by omega
      have HB := Aside0.mk HR.out.src.below
      have HRW := Aside0.mk (show (Kd.int .i8).R 34 wr w.heap.size (fun _ => True) (.slice A4 O.length c4) O from Kd.R_lower HR.out.row (by have := HZ1.out; omega))
      clear hk
      go_wp2
      go_ret
      exact ⟨_, rfl, HB.out, O, HRW.out, hO.out.1, hO.out.2.1 (by trivial)⟩
end Go.Proofs.YtkoaangakmpggaaGreatDoor
end
section
/- Lists of numbers: alike, and whether one has a number; whether bytes are too many. -/
namespace Go.Proofs.YtkoaangakmpggaaGreatDoor
open Go.RowKit Go.Proofs.YtkoaangakmpggaaGreatDoorW.PrintWords Go.Proofs.YtkoaangakmpggaaGreatDoorW.PrintMore
set_option linter.unusedVariables false
set_option linter.unusedSimpArgs false
set_option maxRecDepth 100000

set_option maxHeartbeats 2000000 in
theorem l00Same_c (A A' : Option Addr) (c c' : Nat) (L L' : List Int) (w : World) (hL : (Kd.int .i64).C w A L.length L) (hL' : (Kd.int .i64).C w A' L'.length L') : Calls Tryz.prog 56 #[.slice A L.length c, .slice A' L'.length c'] w (Ret w (.bool (decide (L = L')))) := by
  have hm := Kd.C_max hL
  have hm' := Kd.C_max hL'
  have HL := Aside0.mk hL
  have HL' := Aside0.mk hL'
  clear hL hL'
  by_cases hll : L.length = L'.length
  · have HLL := Aside0.mk hll
    have hb0 : ((L.length : Int) != (L'.length : Int)) = false := by simp [hll]
    have hb0' : (L.length != L'.length) = false := by simp [hll]
    clear hll
    go_enter Tryz.func56, Tryz.ntmps56
    go_wp2
    go_loopg [5] L.length (fun gk v wr => ∃ k : Nat, k + gk = L.length ∧ v = .int .i64 k ∧ Aside0 (L.take k = L'.take k) ∧ Aside0 (Below w.heap.size w wr))
    case atStart => exact ⟨0, by omega, rfl, ⟨by simp⟩, ⟨Below.refl _ _⟩⟩
    case round =>
      clear hb0 hb0'
      obtain ⟨k, hk, rfl, hp, hb⟩ := hrel
      have HK := Aside0.mk hk
      by_cases hlt : k < L.length
      · have hlt' : k < L'.length := by have := HLL.out; omega
        obtain ⟨ad, x, rfl, hbk, x0⟩ := at_int' (Kd.C_below HL.out hb.out) k (by omega)
        obtain ⟨ad', y, rfl, hbk', y0⟩ := at_int' (Kd.C_below HL'.out hb.out) k (by omega)
        clear hk
        have i0 : (0 : Int) ≤ (k : Int) := by omega
        have i1 : (k : Int) < (L.length : Int) := by omega
        have i2 : (k : Int) < (L'.length : Int) := by omega
        by_cases hxy : x = y
        · have HN := Aside0.mk (show L.take (k + 1) = L'.take (k + 1) by rw [take_snoc hbk.out, take_snoc hbk'.out, hp.out, hxy])
          have hd : (x != y) = false := by simp [hxy]
          clear hxy
          go_wp2_with fail
          go_quiet (fail)
          go_wp2
          go_roundg (gk - 1)
          case measure => have := HK.out; omega
          case rel => exact ⟨k + 1, by have := HK.out; omega, by go_num, HN, ⟨bdrewN hb.out _⟩⟩
        · have HN := Aside0.mk (show L ≠ L' from fun h => hxy (by have h1 := hbk.out; rw [h, hbk'.out] at h1; injection h1 with h1; exact h1.symm))
          have hd : (x != y) = true := by simpa using hxy
          clear hxy
          go_wp2_with fail
          go_quiet (fail)
          go_wp2
          go_ret
          exact ⟨ret_bool (decide_eq_false HN.out).symm, bdrewN hb.out _⟩
      · have HE := Aside0.mk (show L = L' by have h1 := hp.out; have h2 := HLL.out; rwa [List.take_of_length_le (by omega), List.take_of_length_le (by omega)] at h1)
        clear hk
        go_wp2
        go_ret
        exact ⟨ret_bool (decide_eq_true HE.out).symm, hb.out⟩
  · have hb0 : ((L.length : Int) != (L'.length : Int)) = true := by simp; omega
    have hb0' : (L.length != L'.length) = true := by simpa using hll
    have HN := Aside0.mk (show L ≠ L' from fun h => hll (by rw [h]))
    clear hll
    go_enter Tryz.func56, Tryz.ntmps56
    go_wp2
    all_goals (go_ret; exact ⟨ret_bool (decide_eq_false HN.out).symm, Below.refl _ _⟩)
set_option maxHeartbeats 1000000 in
theorem SameNumbers_c (A A' : Option Addr) (c c' : Nat) (L L' : List Int) (w : World) (hL : (Kd.int .i64).C w A L.length L) (hL' : (Kd.int .i64).C w A' L'.length L') :
    Calls Tryz.prog 27 #[.slice A L.length c, .slice A' L'.length c'] w (Ret w (.bool (decide (L = L')))) := by
  have HS := Aside0.mk (l00Same_c A A' c c' L L' w hL hL')
  generalize decide (L = L') = b at HS ⊢
  clear hL hL'
  go_enter Tryz.func27, Tryz.ntmps27
  go_wp2_with fail
  refine HS.out.mono ?_; rintro _ w1 ⟨rfl, hb⟩
  have HB := Aside0.mk hb
  clear hb
  go_wp2
  go_ret
  exact ⟨rfl, HB.out⟩
set_option maxHeartbeats 2000000 in
theorem l00Has_c (A : Option Addr) (c : Nat) (L : List Int) (n : Int) (w : World) (hL : (Kd.int .i64).C w A L.length L) : Calls Tryz.prog 57 #[.slice A L.length c, .int .i64 n] w (Ret w (.bool (decide (n ∈ L)))) := by
  have hm := Kd.C_max hL
  have HL := Aside0.mk hL
  clear hL
  go_enter Tryz.func57, Tryz.ntmps57
  go_wp2
  go_loopg [5] L.length (fun gk v wr => ∃ k : Nat, k + gk = L.length ∧ v = .int .i64 k ∧ Aside0 (n ∉ L.take k) ∧ Aside0 (Below w.heap.size w wr))
  case atStart => exact ⟨0, by omega, rfl, ⟨by simp⟩, ⟨Below.refl _ _⟩⟩
  case round =>
    obtain ⟨k, hk, rfl, hp, hb⟩ := hrel
    have HK := Aside0.mk hk
    by_cases hlt : k < L.length
    · obtain ⟨ad, x, rfl, hbk, x0⟩ := at_int' (Kd.C_below HL.out hb.out) k (by omega)
      clear hk
      have i0 : (0 : Int) ≤ (k : Int) := by omega
      have i1 : (k : Int) < (L.length : Int) := by omega
      by_cases hxy : x = n
      · have HN := Aside0.mk (show n ∈ L by rw [← hxy]; exact List.mem_of_getElem? hbk.out)
        have hd : (x == n) = true := by simp [hxy]
        clear hxy
        go_wp2
        go_ret
        exact ⟨ret_bool (decide_eq_true HN.out).symm, hb.out⟩
      · have HN := Aside0.mk (show n ∉ L.take (k + 1) by rw [take_snoc hbk.out]; intro h; rcases List.mem_append.1 h with h | h; exact hp.out h; exact hxy (List.mem_singleton.1 h).symm)
        have hd : (x == n) = false := by simpa using hxy
        clear hxy
        go_wp2
        go_roundg (gk - 1)
        case measure => have := HK.out; omega
        case rel => exact ⟨k + 1, by have := HK.out; omega, by go_num, HN, hb⟩
    · have HE := Aside0.mk (show n ∉ L by have h1 := hp.out; rwa [List.take_of_length_le (by omega)] at h1)
      clear hk
      go_wp2
      go_ret
      exact ⟨ret_bool (decide_eq_false HE.out).symm, hb.out⟩
set_option maxHeartbeats 1000000 in
theorem HasNumber_c (A : Option Addr) (c : Nat) (L : List Int) (n : Int) (w : World) (hL : (Kd.int .i64).C w A L.length L) : Calls Tryz.prog 28 #[.slice A L.length c, .int .i64 n] w (Ret w (.bool (decide (n ∈ L)))) := by
  have HS := Aside0.mk (l00Has_c A c L n w hL)
  generalize decide (n ∈ L) = b at HS ⊢
  clear hL
  go_enter Tryz.func28, Tryz.ntmps28
  go_wp2_with fail
  refine HS.out.mono ?_; rintro _ w1 ⟨rfl, hb⟩
  have HB := Aside0.mk hb
  clear hb
  go_wp2
  go_ret
  exact ⟨rfl, HB.out⟩
theorem f6big_c (A : Option Addr) (n c : Nat) (hn : n ≤ 9223372036854775807) (w : World) : Calls Tryz.prog 4 #[.slice A n c] w (RetS w (.bool (decide (4096 < n)))) := by
  have hw : wrap64 (n : Int) = n := by unfold wrap64; omega
  by_cases h : 4096 < n
  · have hi : (4096 : Int) < (n : Int) := by omega
    have HD := Aside0.mk (decide_eq_true h)
    clear h
    go_enter Tryz.func4, Tryz.ntmps4
    go_wp2
    go_ret
    exact ⟨ret_bool HD.out.symm, rfl⟩
  · have hi : ¬ (4096 : Int) < (n : Int) := by omega
    have HD := Aside0.mk (decide_eq_false h)
    clear h
    go_enter Tryz.func4, Tryz.ntmps4
    go_wp2
    go_ret
    exact ⟨ret_bool HD.out.symm, rfl⟩
end Go.Proofs.YtkoaangakmpggaaGreatDoor
end
section
/- A region that draws its order, whose callees may lay blocks, and whose last operations come one behind the other. -/
namespace Go.Proofs.YtkoaangakmpggaaGreatDoor
open Go.RowKit Go.Proofs.YtkoaangakmpggaaGreatDoorW.PrintWords Go.Proofs.YtkoaangakmpggaaGreatDoorW.PrintMore
set_option linter.unusedVariables false
set_option linter.unusedSimpArgs false
set_option maxRecDepth 100000

section
variable {P : Program} {ops : Array Oper} {md : Region.Mode} {C : World → Prop}
/-- The operations ahead of n in whatever order: each is quiet in the class, none from n on can come up among them. -/
def headQ (P : Program) (md : Region.Mode) (ops : Array Oper) (C : World → Prop) (n : Nat) (L : Array Bool → Act → Prop) : Nat → Array Bool → Act → Prop
  | 0, listed, a => L listed a
  | f + 1, listed, a => Region.ready md ops listed ≠ [] ∧ ∀ i ∈ Region.ready md ops listed, i < n ∧ qOp P ops C i (headQ P md ops C n L f (listed.setIfInBounds i true)) a
theorem headQ_any {n g : Nat} {L : Array Bool → Act → Prop} {Q' : Exit → Act → World → Prop} (hL : ∀ listed a w, C w → L listed a → wpAny P md ops Q' g listed a w) :
    ∀ (f : Nat) (listed : Array Bool) (a : Act) (w : World), C w → headQ P md ops C n L f listed a → wpAny P md ops Q' (f + g) listed a w
  | 0, _, _, _, hw, h => by rw [Nat.zero_add]; exact hL _ _ _ hw h
  | f + 1, _, _, _, hw, h => by
    rw [Nat.add_right_comm]
    exact ⟨fun h0 => absurd h0 h.1, fun i hi => wpOp_of_qOp hw (fun a' w' hw' h' => headQ_any hL f _ a' w' hw' h') (h.2 i hi).2⟩
/-- An operation that is ready and apart from what has not come up is taken first. -/
theorem headQ_first {n i : Nat} {oi : Oper} {v : Value} {L : Array Bool → Act → Prop} (hi : ops[i]? = some oi) (hsel : ∀ (j : Nat) (o : Oper) cs b, ops[j]? = some o → o.op ≠ .select cs b)
    (hs : Region.sinkB md ops n = true) (hc : Region.chainB md ops n = true) (hn : n < ops.size) (hin : i < n) (hL : ∀ listed a, L listed a → ∀ j ∈ Region.ready md ops listed, n ≤ j) (f : Nat) :
    ∀ (listed : Array Bool) (a : Act), HeadInv md ops n listed →
      (∀ j oj, ops[j]? = some oj → j ≠ i → listed.getD j true = false → (∀ e ∈ oj.after, Region.binds md e = true → e.on ≠ i) → oi.apart ops oj = true) →
      i ∈ Region.ready md ops listed → YieldsIn P ops C oi v a → headQ P md ops C n L f (listed.setIfInBounds i true) (a.put oi.dst v) → headQ P md ops C n L (f + 1) listed a := by
  induction f with
  | zero =>
    intro listed a inv _ hr hy H
    refine ⟨fun h => (by rw [h] at hr; cases hr), fun j hj => ?_⟩
    by_cases hji : j = i
    · subst hji
      exact ⟨hin, hy.qOp hi H⟩
    · have h1 := hL _ _ H j (ready_mono hj hji)
      exact absurd hj (tail_waits hs hc hn inv _ i rfl hin (mem_ready.1 hr).1 j h1)
  | succ f ih =>
    intro listed a inv hfree hr hy H
    have hun := (mem_ready.1 hr).1
    refine ⟨fun h => (by rw [h] at hr; cases hr), fun j hj => ?_⟩
    by_cases hji : j = i
    · subst hji
      exact ⟨hin, hy.qOp hi H⟩
    · obtain ⟨hjn, h1⟩ := H.2 j (ready_mono hj hji)
      refine ⟨hjn, ?_⟩
      obtain ⟨hjun, oj, hoj, hall⟩ := mem_ready.1 hj
      have hno : ∀ e ∈ oj.after, Region.binds md e = true → e.on ≠ i := fun e he hb heq => by
        have h2 := hall e he hb
        rw [heq, getD_both hun] at h2
        cases h2
      refine qOp_mono (fun a' h3 => ih (listed.setIfInBounds j true) a' (inv.set hj hjn) (fun k ok hk hki hkun hkno => ?_) (ready_mono hr (Ne.symm hji)) h3.1 ?_)
        (qOp_put hoj (hfree j oj hoj hji hjun hno) (fun cs b => hsel i oi cs b hi) (fun cs b => hsel j oj cs b hoj) hy h1)
      · refine hfree k ok hk hki ?_ hkno
        by_cases hjk : j = k
        · rw [← hjk]
          exact hjun
        · rwa [getD_set_ne true hjk] at hkun
      · rw [Array.setIfInBounds_comm _ _ hji]
        exact h3.2
theorem headQ_lex {n g : Nat} {K : Act → Prop} (hsel : Region.noSelect ops = true) (hs : Region.sinkB md ops n = true) (hc : Region.chainB md ops n = true) (hn : n < ops.size) :
    ∀ (l : List Oper) (k : Nat) (listed : Array Bool) (a : Act), (∀ j, j < l.length → l[j]? = ops[k + j]?) → k + l.length = n → HeadInv md ops n listed →
    Region.lexHead md ops g l.length k listed = true → wpQuiet P ops C K l a → headQ P md ops C n (fun listed' a' => Region.seqB md ops g n listed' = true ∧ K a') l.length listed a
  | [], k, listed, a, _, hk, _, hB, h => by
    obtain rfl : k = n := hk
    exact ⟨hB, h⟩
  | o :: l, k, listed, a, hl, hk, inv, hB, h => by
    have h0 : ops[k]? = some o := (hl 0 (by simp)).symm
    simp only [List.length_cons, Region.lexHead, Bool.and_eq_true] at hB
    obtain ⟨⟨hr, hf⟩, hB'⟩ := hB
    have hkn : k < n := by rw [← hk]; simp
    have hr' : k ∈ Region.ready md ops listed := by simpa using hr
    obtain ⟨v, hy, hK⟩ := yieldsIn_of_qOp (K := wpQuiet P ops C K l) h0 (by unfold qOp; simp only [h0]; exact h)
    exact headQ_first h0 (Region.noSelect_spec hsel) hs hc hn hkn (fun _ _ hL => seqB_ready hL.1) l.length listed a inv (Region.free_spec h0 hf) hr' hy
      (headQ_lex hsel hs hc hn l (k + 1) _ _ (fun j hj => by have := hl (j + 1) (by simpa using hj); rw [Nat.add_assoc, Nat.add_comm 1 j]; exact this) (by rw [← hk, List.length_cons]; omega) (inv.set hr' hkn) hB' hK)
/-- The first n operations in the text's order serve every order; the rest comes one behind the other, from whatever world of the class. -/
theorem region_quiet_tail {id : Nat} {Q : Exit → Act → World → Prop} {a : Act} {w : World} {l : List Oper} (n : Nat) (hm : P.follows .mixedOrders = true) (hB : Region.lexTailB .any l.toArray n = true) (hC : C w.drew)
    (h : wpQuiet P l.toArray C (fun a' => ∀ w', C w' → wpList P l.toArray Q (l.drop n) a' w') (l.take n) a) : (Code.region id l.toArray true).wp P Q a w := by
  simp only [Region.lexTailB, Bool.and_eq_true, decide_eq_true_eq] at hB
  obtain ⟨⟨⟨⟨hsel, hn⟩, hs⟩, hc⟩, hlex⟩ := hB
  have hn' : n < l.length := by simpa using hn
  have e1 : (l.take n).length = n := by simp; omega
  have e2 : (l.drop n).length = l.toArray.size - n := by simp
  have H := headQ_lex (C := C) (md := .any) (g := l.toArray.size - n) hsel hs hc hn (l.take n) 0 (Array.replicate l.toArray.size false) a (fun j hj => by rw [e1] at hj; simp [hj]) (by rw [e1]; simp)
    ⟨by simp, fun j oj _ hl => (by rw [getD_replicate_false] at hl; cases hl), fun t _ ht => getD_in (by simpa using ht) (getD_replicate_false _ _)⟩ (by rw [e1]; exact hlex) h
  refine wp_region_any hm ?_
  have := headQ_any (Q' := Q) (g := l.toArray.size - n) (fun listed a' w' hw' hL => by
    have := wpAny_of_seq (md := .any) (Q' := Q) (l.drop n) n listed a' w' (fun j => by simp [List.getElem?_drop]) (by rw [e2]; exact hL.1) (hL.2 w' hw')
    rwa [e2] at this) _ _ _ w.drew hC H
  rw [e1, show n + (l.toArray.size - n) = l.toArray.size by simp; omega] at this
  simpa using this
end
/-- The same at the class of what has grown out of w. -/
theorem region_over_tail {P : Program} {id : Nat} {Q : Exit → Act → World → Prop} {a : Act} {w : World} {l : List Oper} (n : Nat) (hm : P.follows .mixedOrders = true) (hB : Region.lexTailB .any l.toArray n = true)
    (h : wpQuiet P l.toArray (fun w' => ∃ p : Over w, w' = p.W) (fun a' => ∀ w', (∃ p : Over w, w' = p.W) → wpList P l.toArray Q (l.drop n) a' w') (l.take n) a) : (Code.region id l.toArray true).wp P Q a w :=
  region_quiet_tail n hm hB ⟨⟨w.drew, bdrew (Below.refl _ _)⟩, rfl⟩ h
end Go.Proofs.YtkoaangakmpggaaGreatDoor
end
section
/- A region that draws its order, some of whose operations lay a block that others read: the quiet ones are taken first, from whatever world has grown out of the base. -/
namespace Go.Proofs.YtkoaangakmpggaaGreatDoor
open Go.RowKit Go.Proofs.YtkoaangakmpggaaGreatDoorW.PrintWords Go.Proofs.YtkoaangakmpggaaGreatDoorW.PrintMore
set_option linter.unusedVariables false
set_option linter.unusedSimpArgs false
set_option maxRecDepth 100000

section
variable {P : Program} {ops : Array Oper} {md : Region.Mode} {Q : Exit → Act → World → Prop}
/-- w has grown out of b, what b holds kept. -/
abbrev Ov (b w : World) : Prop := Below b.heap.size b w
theorem Ov.step {a b c : World} (h : Ov a b) (k : Ov b c) : Ov a c := bstep h k
/-- From whatever base above b, the operation yields v in every world above that base, and leaves one. -/
def YG (P : Program) (ops : Array Oper) (G : World → World → Prop) (b : World) (o : Oper) (v : Value) (a : Act) : Prop := ∀ b', G b b' → YieldsIn P ops (Ov b') o v a
/-- What the other operations keep. -/
structure Keep (G : World → World → Prop) : Prop where
  of : ∀ {b w}, Ov b w → G b w
  step : ∀ {a b c}, G a b → G b c → G a c
theorem Keep.ov : Keep Ov := ⟨fun h => h, fun h k => h.step k⟩
variable {G : World → World → Prop}
theorem YG.up (hG : Keep G) {b b' : World} {o : Oper} {v : Value} {a : Act} (h : YG P ops G b o v a) (hb : G b b') : YG P ops G b' o v a := fun c hc => h c (hG.step hb hc)
theorem putY {j : Nat} {oi oj : Oper} {v : Value} {Y : Act → Prop} (hj : ops[j]? = some oj) (hap : oi.apart ops oj = true) (hsj : ∀ cs b, oj.op ≠ .select cs b)
    (keep : ∀ a, Y a → ∀ u, Y (a.put oj.dst u)) (keepD : ∀ a d, Y a → Y { a with defers := d :: a.defers }) (hQ : ∀ c a w, Q (.panic c) (a.put oi.dst v) w → Q (.panic c) a w)
    {K : Act → World → Prop} {a : Act} {w : World} (hy : Y a) (h : wpOp P ops Q j K (a.put oi.dst v) w) : wpOp P ops Q j (fun a' w' => Y a' ∧ K (a'.put oi.dst v) w') a w := by
  obtain ⟨h1, h2, h3⟩ := Oper.apart_spec hap
  unfold wpOp at *
  simp only [hj] at *
  rw [wanted_put oj a oi.dst v h1] at h
  split
  · rename_i hw
    simp only [hw, if_true] at h
    rcases h with h | ⟨hasks, hlets⟩
    case inr => exact .inr ⟨by unfold Oper.asks at *; rw [execOp_put oj hsj a oi.dst v h1] at hasks; exact hasks, hlets⟩
    refine .inl ?_
    unfold Oper.wp at *
    rw [execOp_put oj hsj a oi.dst v h1] at h
    generalize (execOp a.eval oj).run P w = r at *
    cases r with
    | ok n w' =>
      cases n <;> simp only [Oper.upon] at h ⊢
      case value u => exact ⟨keep a hy u, by rw [← Act.put_comm a v u h2]; exact h⟩
      case skip => exact ⟨keep a hy _, by rw [← Act.put_comm a v undef h2]; exact h⟩
      case defer d =>
        refine ⟨keep _ (keepD _ d hy) _, ?_⟩
        rw [← Act.put_comm _ v undef h2, ← Act.put_defers]
        exact h
      case enter f args =>
        refine Calls.mono h fun e w'' he => ?_
        cases e with
        | returned u => exact ⟨keep a hy u, by rw [← Act.put_comm a v u h2]; exact he⟩
        | panicked c => exact hQ _ _ _ he
        | outgrown => exact he
      case row row args => exact Rows.mono h fun u w'' he => ⟨keep a hy u, by rw [← Act.put_comm a v u h2]; exact he⟩
    | halt x w' =>
      cases x <;> simp only [Oper.upon] at h ⊢
      case panic u => exact hQ _ _ _ h
  · rename_i hw
    simp only [hw] at h
    exact ⟨keep a hy _, by rw [← Act.put_comm a v undef h2]; exact h⟩
/-- The operations ahead of n in whatever order, each from whatever world above the base; the world that it leaves is the next base. -/
def headO (P : Program) (md : Region.Mode) (ops : Array Oper) (G : World → World → Prop) (Q : Exit → Act → World → Prop) (n : Nat) (L : Array Bool → Act → World → Prop) : Nat → Array Bool → Act → World → Prop
  | 0, listed, a, b => L listed a b
  | f + 1, listed, a, b => Region.ready md ops listed ≠ [] ∧ ∀ i ∈ Region.ready md ops listed, i < n ∧ ∀ w, Ov b w → wpOp P ops Q i (fun a' w' => G w w' ∧ headO P md ops G Q n L f (listed.setIfInBounds i true) a' w') a w
theorem headO_up {n : Nat} {L : Array Bool → Act → World → Prop} (hL : ∀ listed a b b', Ov b b' → L listed a b → L listed a b') {b b' : World} (hb : Ov b b') :
    ∀ (f : Nat) (listed : Array Bool) (a : Act), headO P md ops G Q n L f listed a b → headO P md ops G Q n L f listed a b'
  | 0, _, _, h => hL _ _ _ _ hb h
  | _ + 1, _, _, h => ⟨h.1, fun i hi => ⟨(h.2 i hi).1, fun w hw => (h.2 i hi).2 w (hb.step hw)⟩⟩
theorem headO_any {n g : Nat} {L : Array Bool → Act → World → Prop} (hL : ∀ listed a w, L listed a w → wpAny P md ops Q g listed a w) :
    ∀ (f : Nat) (listed : Array Bool) (a : Act) (w : World), headO P md ops G Q n L f listed a w → wpAny P md ops Q (f + g) listed a w
  | 0, _, _, _, h => by rw [Nat.zero_add]; exact hL _ _ _ h
  | f + 1, _, _, w, h => by
    rw [Nat.add_right_comm]
    exact ⟨fun h0 => absurd h0 h.1, fun i hi => wpOp_mono (fun a' w' h' => headO_any hL f _ a' w' h'.2) ((h.2 i hi).2 w (Below.refl _ _))⟩
theorem YG.op (hG : Keep G) {b : World} {i : Nat} {o : Oper} {v : Value} {a : Act} {K : Act → World → Prop} (hi : ops[i]? = some o) (hy : YG P ops G b o v a) (hK : ∀ w, Ov b w → K (a.put o.dst v) w) (w : World) (hw : Ov b w) :
    wpOp P ops Q i (fun a' w' => G w w' ∧ K a' w') a w :=
  wpOp_of_qOp (C := Ov w) (K := fun a' => a' = a.put o.dst v) (Below.refl _ _) (fun a' w' h1 h2 => ⟨hG.of h1, by rw [h2]; exact hK w' (hw.step h1)⟩) ((hy w (hG.of hw)).qOp hi rfl)
theorem headO_first (hG : Keep G) {n i : Nat} {oi : Oper} {v : Value} {L : Array Bool → Act → World → Prop} (hi : ops[i]? = some oi) (hsel : ∀ (j : Nat) (o : Oper) cs b, ops[j]? = some o → o.op ≠ .select cs b)
    (hQ : ∀ c a w, Q (.panic c) (a.put oi.dst v) w → Q (.panic c) a w)
    (hs : Region.sinkB md ops n = true) (hc : Region.chainB md ops n = true) (hn : n < ops.size) (hin : i < n) (hL : ∀ listed a b, L listed a b → ∀ j ∈ Region.ready md ops listed, n ≤ j)
    (hLu : ∀ listed a b b', Ov b b' → L listed a b → L listed a b') (f : Nat) :
    ∀ (listed : Array Bool) (a : Act) (b : World), HeadInv md ops n listed →
      (∀ j oj, ops[j]? = some oj → j ≠ i → listed.getD j true = false → (∀ e ∈ oj.after, Region.binds md e = true → e.on ≠ i) → oi.apart ops oj = true) →
      i ∈ Region.ready md ops listed → YG P ops G b oi v a → headO P md ops G Q n L f (listed.setIfInBounds i true) (a.put oi.dst v) b → headO P md ops G Q n L (f + 1) listed a b := by
  induction f with
  | zero =>
    intro listed a b inv _ hr hy H
    refine ⟨fun h => (by rw [h] at hr; cases hr), fun j hj => ?_⟩
    by_cases hji : j = i
    · subst hji
      exact ⟨hin, hy.op hG hi (fun w hw => hLu _ _ _ _ hw H)⟩
    · have h1 := hL _ _ _ H j (ready_mono hj hji)
      exact absurd hj (tail_waits hs hc hn inv _ i rfl hin (mem_ready.1 hr).1 j h1)
  | succ f ih =>
    intro listed a b inv hfree hr hy H
    have hun := (mem_ready.1 hr).1
    refine ⟨fun h => (by rw [h] at hr; cases hr), fun j hj => ?_⟩
    by_cases hji : j = i
    · subst hji
      exact ⟨hin, hy.op hG hi (fun w hw => headO_up hLu hw _ _ _ H)⟩
    · obtain ⟨hjn, h1⟩ := H.2 j (ready_mono hj hji)
      refine ⟨hjn, fun w hw => ?_⟩
      obtain ⟨hjun, oj, hoj, hall⟩ := mem_ready.1 hj
      have hno : ∀ e ∈ oj.after, Region.binds md e = true → e.on ≠ i := fun e he hb heq => by
        have h2 := hall e he hb
        rw [heq, getD_both hun] at h2
        cases h2
      have hap := hfree j oj hoj hji hjun hno
      obtain ⟨p1, p2, p3⟩ := Oper.apart_spec hap
      have h2 := putY (Q := Q) (Y := fun a' => YG P ops G b oi v a') hoj hap (fun cs c => hsel j oj cs c hoj)
        (fun a' hy' u b' hb' => (hy' b' hb').of_same (execOp_put oi (fun cs c => hsel i oi cs c hi) a' oj.dst u p3) (wanted_put oi a' oj.dst u p3))
        (fun a' d hy' b' hb' => (hy' b' hb').of_same rfl rfl) hQ hy (h1 w hw)
      refine wpOp_mono (fun a' w' h3 => ⟨h3.2.1, ih (listed.setIfInBounds j true) a' w' (inv.set hj hjn) (fun k ok hk hki hkun hkno => ?_) (ready_mono hr (Ne.symm hji)) (h3.1.up hG (hG.step (hG.of hw) h3.2.1)) ?_⟩) h2
      · refine hfree k ok hk hki ?_ hkno
        by_cases hjk : j = k
        · rw [← hjk]
          exact hjun
        · rwa [getD_set_ne true hjk] at hkun
      · rw [Array.setIfInBounds_comm _ _ hji]
        exact h3.2.2
/-- The walk's state: what is listed has come up. -/
def HO (P : Program) (md : Region.Mode) (l : List Oper) (G : World → World → Prop) (Q : Exit → Act → World → Prop) (n f : Nat) (listed : Array Bool) (a : Act) (b : World) : Prop :=
  HeadInv md l.toArray n listed → headO P md l.toArray G Q n (fun listed' a' b' => Region.seqB md l.toArray (l.toArray.size - n) n listed' = true ∧ ∀ w, Ov b' w → wpList P l.toArray Q (l.drop n) a' w) f listed a b
def sideB (md : Region.Mode) (l : List Oper) (n : Nat) : Bool := Region.noSelect l.toArray && decide (n < l.toArray.size) && Region.sinkB md l.toArray n && Region.chainB md l.toArray n
theorem HO_take (hG : Keep G) {l : List Oper} {n f i : Nat} {listed : Array Bool} {a : Act} {b : World} {oi : Oper} {v : Value} (hi : l.toArray[i]? = some oi) (hB : sideB md l n = true) (hf : Region.free md l.toArray listed i = true)
    (hr : (Region.ready md l.toArray listed).contains i = true) (hin : i < n) (hQ : ∀ c a w, Q (.panic c) (a.put oi.dst v) w → Q (.panic c) a w)
    (hy : YG P l.toArray G b oi v a) (H : HO P md l G Q n f (listed.setIfInBounds i true) (a.put oi.dst v) b) : HO P md l G Q n (f + 1) listed a b := by
  simp only [sideB, Bool.and_eq_true, decide_eq_true_eq] at hB
  obtain ⟨⟨⟨hsel, hn⟩, hs⟩, hc⟩ := hB
  intro inv
  have hr' : i ∈ Region.ready md l.toArray listed := by simpa using hr
  exact headO_first hG hi (Region.noSelect_spec hsel) hQ hs hc hn hin (fun _ _ _ hL => seqB_ready hL.1) (fun _ _ _ _ hb hL => ⟨hL.1, fun w hw => hL.2 w (hb.step hw)⟩) f listed a b inv (Region.free_spec hi hf) hr' hy (H (inv.set hr' hin))
/-- The one operation that may come up. -/
theorem HO_one {l : List Oper} {n f i : Nat} {listed : Array Bool} {a : Act} {b : World} (hr : Region.ready md l.toArray listed = [i]) (hin : i < n)
    (H : ∀ w, Ov b w → wpOp P l.toArray Q i (fun a' w' => G w w' ∧ HO P md l G Q n f (listed.setIfInBounds i true) a' w') a w) : HO P md l G Q n (f + 1) listed a b := by
  intro inv
  have hm : i ∈ Region.ready md l.toArray listed := by rw [hr]; exact List.mem_singleton.2 rfl
  refine ⟨by rw [hr]; simp, fun j hj => ?_⟩
  rw [hr, List.mem_singleton] at hj
  subst hj
  exact ⟨hin, fun w hw => wpOp_mono (fun a' w' h => ⟨h.1, h.2 (inv.set hm hin)⟩) (H w hw)⟩
/-- .. walked. -/
theorem HO_step {l : List Oper} {n f i : Nat} {listed : Array Bool} {a : Act} {b : World} {oi : Oper} (hi : l.toArray[i]? = some oi) (hr : Region.ready md l.toArray listed = [i]) (hin : i < n) (hw : Region.wanted oi (yielded l.toArray a.tmps) = true)
    (H : ∀ w, Ov b w → ∀ K : Act → World → Prop, (∀ a' w', G w w' → HO P md l G Q n f (listed.setIfInBounds i true) a' w' → K a' w') → oi.wp P a w K Q) : HO P md l G Q n (f + 1) listed a b :=
  HO_one hr hin (fun w hb => by
    unfold wpOp
    simp only [hi, hw, if_true]
    exact .inl (H w hb _ (fun _ _ h1 h2 => ⟨h1, h2⟩)))
/-- Two may come up. -/
theorem HO_step2 {l : List Oper} {n f i j : Nat} {listed : Array Bool} {a : Act} {b : World} {oi oj : Oper} (hi : l.toArray[i]? = some oi) (hj : l.toArray[j]? = some oj) (hr : Region.ready md l.toArray listed = [i, j]) (hin : i < n) (hjn : j < n)
    (hw : Region.wanted oi (yielded l.toArray a.tmps) = true) (hw' : Region.wanted oj (yielded l.toArray a.tmps) = true)
    (H : ∀ w, Ov b w → ∀ K : Act → World → Prop, (∀ a' w', G w w' → HO P md l G Q n f (listed.setIfInBounds i true) a' w' → K a' w') → oi.wp P a w K Q)
    (H' : ∀ w, Ov b w → ∀ K : Act → World → Prop, (∀ a' w', G w w' → HO P md l G Q n f (listed.setIfInBounds j true) a' w' → K a' w') → oj.wp P a w K Q) : HO P md l G Q n (f + 1) listed a b := by
  intro inv
  refine ⟨by rw [hr]; simp, fun k hk => ?_⟩
  have hm : i ∈ Region.ready md l.toArray listed ∧ j ∈ Region.ready md l.toArray listed := by rw [hr]; exact ⟨by simp, by simp⟩
  rw [hr] at hk
  rcases List.mem_cons.1 hk with rfl | hk
  · refine ⟨hin, fun w hb => ?_⟩
    unfold wpOp
    simp only [hi, hw, if_true]
    exact .inl (H w hb _ (fun _ _ h1 h2 => ⟨h1, h2 (inv.set hm.1 hin)⟩))
  · obtain rfl := List.mem_singleton.1 hk
    refine ⟨hjn, fun w hb => ?_⟩
    unfold wpOp
    simp only [hj, hw', if_true]
    exact .inl (H' w hb _ (fun _ _ h1 h2 => ⟨h1, h2 (inv.set hm.2 hjn)⟩))
theorem HO_end {l : List Oper} {n : Nat} {listed : Array Bool} {a : Act} {b : World} (hB : Region.seqB md l.toArray (l.toArray.size - n) n listed = true) (H : ∀ w, Ov b w → wpList P l.toArray Q (l.drop n) a w) : HO P md l G Q n 0 listed a b :=
  fun _ => ⟨hB, H⟩
theorem region_HO {id : Nat} {a : Act} {w : World} {l : List Oper} (n : Nat) (hm : P.follows .mixedOrders = true) (hB : sideB .any l n = true) (H : HO P .any l G Q n n (Array.replicate l.toArray.size false) a w.drew) : (Code.region id l.toArray true).wp P Q a w := by
  simp only [sideB, Bool.and_eq_true, decide_eq_true_eq] at hB
  obtain ⟨⟨⟨hsel, hn⟩, hs⟩, hc⟩ := hB
  have h := H ⟨by simp, fun j oj _ hl => (by rw [getD_replicate_false] at hl; cases hl), fun t _ ht => getD_in (by simpa using ht) (getD_replicate_false _ _)⟩
  refine wp_region_any hm ?_
  have e2 : (l.drop n).length = l.toArray.size - n := by simp
  have := headO_any (g := l.toArray.size - n) (fun listed a' w' hL => by
    have := wpAny_of_seq (md := .any) (Q' := Q) (l.drop n) n listed a' w' (fun j => by simp [List.getElem?_drop]) (by rw [e2]; exact hL.1) (hL.2 w' (Below.refl _ _))
    rwa [e2] at this) _ _ _ w.drew h
  rw [show n + (l.toArray.size - n) = l.toArray.size by have := hn; omega] at this
  exact this
end
end Go.Proofs.YtkoaangakmpggaaGreatDoor
end
section
/- Texts in plain Lean: digits, pieces between separators, numbers read. -/
namespace Go.Proofs.YtkoaangakmpggaaGreatDoor
open Go.RowKit Go.Proofs.YtkoaangakmpggaaGreatDoorW.PrintWords Go.Proofs.YtkoaangakmpggaaGreatDoorW.PrintMore
set_option linter.unusedVariables false
set_option linter.unusedSimpArgs false
set_option maxRecDepth 100000

open Go.Lib (decDigits itoa atoi atoiAll decFrom decNat digitVal NumEnd)
abbrev Bs := List UInt8
/-- The digits of a number that is at least 0. -/
def dg (n : Int) : Bs := decDigits n.toNat
def bS (l : Bs) : ByteArray := ⟨l.toArray⟩
theorem bS_toList (l : Bs) : (bS l).data.toList = l := by unfold bS; simp
theorem bS_of (s : ByteArray) : bS s.data.toList = s := by unfold bS; cases s; simp
theorem bS_inj {a b : Bs} (h : bS a = bS b) : a = b := by have := congrArg (fun s : ByteArray => s.data.toList) h; simpa [bS_toList] using this
theorem bS_append (a b : Bs) : bS a ++ bS b = bS (a ++ b) := by
  apply ByteArray.ext
  simp [bS, ByteArray.data_append]
theorem itoa_dg {n : Int} (h : 0 ≤ n) : itoa n = dg n := by unfold itoa dg; rw [if_neg (by omega)]
/-- Each sign of a number's digits is a digit. -/
theorem dd_digit : ∀ (u : Nat) (x : UInt8), x ∈ decDigits u → 48 ≤ x.toNat ∧ x.toNat ≤ 57 := by
  intro u
  induction u using Nat.strongRecOn with
  | ind u ih =>
    intro x hx
    rw [decDigits] at hx
    split at hx
    · rename_i h
      rw [List.mem_singleton] at hx
      subst hx
      rw [UInt8.toNat_ofNat']
      omega
    · rename_i h
      rcases List.mem_append.1 hx with h1 | h1
      · exact ih (u / 10) (by omega) x h1
      · rw [List.mem_singleton] at h1
        subst h1
        rw [UInt8.toNat_ofNat']
        omega
theorem dg_digit {n : Int} {x : UInt8} (h : x ∈ dg n) : 48 ≤ x.toNat ∧ x.toNat ≤ 57 := dd_digit _ _ h
theorem dd_ne (u : Nat) : decDigits u ≠ [] := by
  rw [decDigits]
  split
  · exact List.cons_ne_nil _ _
  · exact List.append_ne_nil_of_right_ne_nil _ (List.cons_ne_nil _ _)
theorem decFrom_app (l : Bs) : ∀ (a : Nat) (x : UInt8), decFrom a (l ++ [x]) = (decFrom a l).bind fun n => (digitVal x).map fun d => n * 10 + d := by
  induction l with
  | nil =>
    intro a x
    simp only [List.nil_append, decFrom, Option.bind_some]
    cases digitVal x <;> rfl
  | cons y l ih =>
    intro a x
    rw [List.cons_append, decFrom, decFrom]
    cases h : digitVal y with
    | none => rfl
    | some d => exact ih _ x
theorem digitVal_dig (d : Nat) (h : d < 10) : digitVal (UInt8.ofNat (48 + d)) = some d := by
  unfold digitVal
  rw [UInt8.toNat_ofNat']
  rw [if_pos (by omega)]
  congr 1
  omega
/-- Digits are read back. -/
theorem dd_read : ∀ u : Nat, decFrom 0 (decDigits u) = some u := by
  intro u
  induction u using Nat.strongRecOn with
  | ind u ih =>
    rw [decDigits]
    split
    · rename_i h
      rw [decFrom, digitVal_dig u h]
      simp [decFrom]
    · rename_i h
      rw [decFrom_app, ih (u / 10) (by omega), Option.bind_some, digitVal_dig _ (by omega)]
      simp only [Option.map_some, Option.some.injEq]
      omega
/-- The first digit of a number above 9 is not 0. -/
theorem dd_len_le : ∀ (k u : Nat), u < 10 ^ (k + 1) → (decDigits u).length ≤ k + 1 := by
  intro k
  induction k with
  | zero =>
    intro u h
    rw [decDigits, dif_pos (by simpa using h)]
    simp
  | succ k ih =>
    intro u h
    rw [decDigits]
    split
    · simp
    · have := ih (u / 10) (by rw [Nat.pow_succ] at h; omega)
      simp only [List.length_append, List.length_cons, List.length_nil]
      omega
theorem head_app {a b : Bs} (h : a ≠ []) : (a ++ b).head? = a.head? := by
  cases a with
  | nil => exact absurd rfl h
  | cons x r => rfl
theorem dd_head : ∀ u : Nat, (decDigits u).head? = some 48 → u = 0 := by
  intro u
  induction u using Nat.strongRecOn with
  | ind u ih =>
    intro h
    rw [decDigits] at h
    split at h
    · rename_i hu
      simp only [List.head?_cons, Option.some.injEq] at h
      have := congrArg UInt8.toNat h
      rw [UInt8.toNat_ofNat'] at this
      simp at this
      omega
    · rename_i hu
      rw [head_app (dd_ne _)] at h
      have := ih (u / 10) (by omega) h
      omega
/-- What is read is written back, if it bears no 0 ahead. -/
theorem dd_back : ∀ (l : Bs) (n : Nat), l ≠ [] → decFrom 0 l = some n → (l.head? = some 48 → l.length ≤ 1) → decDigits n = l := by
  intro l
  induction hn : l.length using Nat.strongRecOn generalizing l with
  | ind k ih =>
    intro n h0 hr hz
    rcases List.eq_nil_or_concat l with rfl | ⟨m, x, rfl⟩
    · exact absurd rfl h0
    · rw [List.concat_eq_append] at hn hr hz ⊢
      rw [decFrom_app] at hr
      obtain ⟨a, ha, hr⟩ := Option.bind_eq_some_iff.1 hr
      obtain ⟨d, hd, rfl⟩ := Option.map_eq_some_iff.1 hr
      obtain ⟨d1, d2, d3⟩ := Go.Lib.digitVal_eq hd
      have hx : UInt8.ofNat (48 + d) = x := by
        apply UInt8.toNat_inj.1
        rw [UInt8.toNat_ofNat']
        omega
      by_cases hm : m = []
      · subst hm
        simp only [decFrom, Option.some.injEq] at ha
        subst ha
        rw [decDigits, dif_pos (by omega), Nat.zero_mul, Nat.zero_add, hx]
        rfl
      · have hl : m.length < k := by rw [← hn]; simp
        have hm1 : 1 ≤ m.length := List.length_pos_iff.2 hm
        have hzm : m.head? = some 48 → m.length ≤ 1 := by
          intro e
          have := hz (by rw [head_app hm]; exact e)
          rw [← hn] at this
          simp only [List.length_append, List.length_singleton] at this
          omega
        have hb := ih m.length hl m rfl a hm ha hzm
        have ha0 : a ≠ 0 := by
          rintro rfl
          have h48 : m.head? = some 48 := by rw [← hb, decDigits, dif_pos (by omega)]; rfl
          have := hz (by rw [head_app hm]; exact h48)
          rw [← hn] at this
          simp only [List.length_append, List.length_singleton] at this
          omega
        rw [decDigits, dif_neg (by omega), show (a * 10 + d) / 10 = a by omega, show (a * 10 + d) % 10 = d by omega, hb, hx]
/-- strconv's reading of digits. -/
theorem atoi_dg {n : Int} (h0 : 0 ≤ n) (h1 : n < 1000000000000000000) : Go.Lib.parseIntB 64 (dg n) = .ok n := by
  rw [Go.Lib.parseIntB_64, Go.Lib.atoiAll_short _ (by have := dd_len_le 17 n.toNat (by omega); unfold dg; omega)]
  have hr := dd_read n.toNat
  have hne := dd_ne n.toNat
  have hd := dd_digit n.toNat
  unfold dg
  generalize decDigits n.toNat = l at hr hne hd ⊢
  cases l with
  | nil => exact absurd rfl hne
  | cons x r =>
    have hx := hd x (by simp)
    have h45 : (x == 45) = false := by
      apply beq_eq_false_iff_ne.2; rintro rfl; simp at hx
    have h43 : (x == 43) = false := by
      apply beq_eq_false_iff_ne.2; rintro rfl; simp at hx
    have hnat : decNat (x :: r) = some n.toNat := by
      unfold decNat
      rw [if_neg (by simp)]
      exact hr
    have e : atoi (x :: r) = some n := by
      show (if x == 45 then (decNat r).map fun (m : Nat) => -(m : Int) else if x == 43 then (decNat r).map fun (m : Nat) => (m : Int) else (decNat (x :: r)).map fun (m : Nat) => (m : Int)) = some n
      rw [h45, h43, hnat]
      simp only [Bool.false_eq_true, if_false, Option.map_some, Option.some.injEq]
      omega
    rw [e]
    rfl
/-- The reference's reading: at most nine digits, none of them a 0 ahead of others. -/
def numL (l : Bs) : Option Nat := if l = [] ∨ 9 < l.length ∨ (l.head? = some 48 ∧ 1 < l.length) then none else decFrom 0 l
theorem numL_dg {n : Int} (h0 : 0 ≤ n) (h1 : n < 1000000000) : numL (dg n) = some n.toNat := by
  unfold numL
  rw [if_neg]
  · exact dd_read _
  · rintro (h | h | ⟨h, h2⟩)
    · exact dd_ne _ h
    · have := dd_len_le 8 n.toNat (by omega)
      unfold dg at h
      omega
    · have := dd_head _ h
      unfold dg at h2
      rw [this, decDigits, dif_pos (by omega)] at h2
      exact absurd h2 (by simp)
theorem numL_back {l : Bs} {n : Nat} (h : numL l = some n) : dg n = l := by
  unfold numL at h
  split at h
  · cases h
  · rename_i hc
    exact dd_back l n (fun e => hc (.inl e)) h (fun e => by
      by_cases hl : l.length ≤ 1
      · exact hl
      · exact absurd (.inr (.inr ⟨e, by omega⟩)) hc)
theorem numL_lt {l : Bs} {n : Nat} (h : numL l = some n) : n < 1000000000 := by
  unfold numL at h
  split at h
  · cases h
  · rename_i hc
    have hl : l.length ≤ 9 := by
      by_cases hl : l.length ≤ 9
      · exact hl
      · exact absurd (.inr (.inl (by omega))) hc
    have h1 := Go.Lib.decFrom_lt l 0 n h
    have h2 : 10 ^ l.length ≤ 10 ^ 9 := Nat.pow_le_pow_right (by decide) hl
    omega
/-- The pieces between separators. -/
def splitL (c : UInt8) : Bs → List Bs
  | [] => [[]]
  | x :: l => if x = c then [] :: splitL c l else match splitL c l with
    | [] => [[x]]
    | w :: r => (x :: w) :: r
theorem splitL_ne (c : UInt8) (l : Bs) : splitL c l ≠ [] := by
  cases l with
  | nil => exact List.cons_ne_nil _ _
  | cons x l =>
    rw [splitL]
    split
    · exact List.cons_ne_nil _ _
    · split <;> exact List.cons_ne_nil _ _
theorem splitL_none {c : UInt8} : ∀ {l : Bs}, c ∉ l → splitL c l = [l]
  | [], _ => rfl
  | x :: l, h => by
    have hx : x ≠ c := fun e => h (by simp [e])
    rw [splitL, if_neg hx, splitL_none (l := l) (fun hm => h (by simp [hm]))]
theorem splitL_cons {c : UInt8} (r : Bs) : ∀ {a : Bs}, c ∉ a → splitL c (a ++ c :: r) = a :: splitL c r
  | [], _ => by rw [List.nil_append, splitL, if_pos rfl]
  | x :: a, h => by
    have hx : x ≠ c := fun e => h (by simp [e])
    rw [List.cons_append, splitL, if_neg hx, splitL_cons r (a := a) (fun hm => h (by simp [hm]))]
/-- Pieces, with the separator between them. -/
def joinL (c : UInt8) : List Bs → Bs
  | [] => []
  | [a] => a
  | a :: b :: r => a ++ c :: joinL c (b :: r)
theorem joinL_split (c : UInt8) : ∀ l : Bs, joinL c (splitL c l) = l
  | [] => rfl
  | x :: l => by
    have ih := joinL_split c l
    have hne := splitL_ne c l
    rw [splitL]
    split
    · rename_i hx
      subst hx
      cases hs : splitL x l with
      | nil => exact absurd hs hne
      | cons w r =>
        rw [hs] at ih
        rw [joinL, ih]
        rfl
    · cases hs : splitL c l with
      | nil => exact absurd hs hne
      | cons w r =>
        rw [hs] at ih
        cases r with
        | nil =>
          simp only [joinL] at ih ⊢
          rw [ih]
        | cons b r =>
          simp only [joinL] at ih ⊢
          rw [List.cons_append, ih]
/-- Pieces that bear no separator are found again. -/
theorem splitL_join {c : UInt8} : ∀ {ws : List Bs}, ws ≠ [] → (∀ w, w ∈ ws → c ∉ w) → splitL c (joinL c ws) = ws
  | [], h, _ => absurd rfl h
  | [a], _, h => splitL_none (h a (by simp))
  | a :: b :: r, _, h => by
    rw [joinL, splitL_cons _ (h a (by simp)), splitL_join (ws := b :: r) (List.cons_ne_nil _ _) (fun w hw => h w (by simp at hw ⊢; exact .inr hw))]
/-- The library's pieces. -/
theorem index_one (c : UInt8) : ∀ l : Bs, (Go.Lib.index l [c] = -1 ∧ c ∉ l) ∨ ∃ a r, l = a ++ c :: r ∧ c ∉ a ∧ Go.Lib.index l [c] = (a.length : Int)
  | l => by
    rcases Go.Lib.index_spec l [c] with ⟨h1, h2⟩ | ⟨i, h1, hi, h2, h3⟩
    · refine .inl ⟨h1, fun hm => ?_⟩
      obtain ⟨j, hj⟩ := List.mem_iff_getElem?.1 hm
      have hjl : j < l.length := (List.getElem?_eq_some_iff.1 hj).1
      have := h2 j (by omega)
      unfold Go.Lib.occAt at this
      rw [List.drop_eq_getElem_cons hjl] at this
      have e := (List.getElem?_eq_some_iff.1 hj).2
      rw [e] at this
      simp at this
    · have hc := Go.Lib.occAt_head (t := []) rfl h2
      have hil : i < l.length := (List.getElem?_eq_some_iff.1 hc).1
      have e := (List.getElem?_eq_some_iff.1 hc).2
      refine .inr ⟨l.take i, l.drop (i + 1), ?_, ?_, ?_⟩
      · exact ((List.take_append_drop i l).symm).trans (by rw [List.drop_eq_getElem_cons hil, e])
      · intro hm
        obtain ⟨j, hj⟩ := List.mem_iff_getElem?.1 hm
        have hjl : j < (l.take i).length := (List.getElem?_eq_some_iff.1 hj).1
        rw [List.length_take] at hjl
        rw [List.getElem?_take_of_lt (by omega)] at hj
        have hb := h3 j (by omega)
        have hjl2 : j < l.length := by omega
        unfold Go.Lib.occAt at hb
        rw [List.drop_eq_getElem_cons hjl2] at hb
        have e2 := (List.getElem?_eq_some_iff.1 hj).2
        rw [e2] at hb
        simp at hb
      · rw [h1, List.length_take]
        omega
theorem splitK_one (c : UInt8) : ∀ (l : Bs) (k : Nat), Go.Lib.count l [c] ≤ k → Go.Lib.splitK [c] 0 k l = splitL c l := by
  intro l
  induction hn : l.length using Nat.strongRecOn generalizing l with
  | ind n ih =>
    intro k hk
    rcases index_one c l with ⟨h1, h2⟩ | ⟨a, r, rfl, ha, h1⟩
    · rw [splitL_none h2]
      cases k with
      | zero => rfl
      | succ k => rw [Go.Lib.splitK, h1, if_pos (by decide)]
    · have hc := Go.Lib.count_hit (List.cons_ne_nil c []) h1
      have hd : (a ++ c :: r).drop (a.length + [c].length) = r := by
        rw [List.length_singleton, ← List.drop_drop, List.drop_left]
        rfl
      rw [hd] at hc
      cases k with
      | zero => omega
      | succ k =>
        rw [Go.Lib.splitK, h1, if_neg (by simp), splitL_cons r ha, Int.toNat_natCast, hd, Nat.add_zero, List.take_left]
        rw [ih r.length (by rw [← hn]; simp; omega) r rfl k (by omega)]
theorem splitB_one (c : UInt8) (s : ByteArray) : (Go.Lib.splitB (bS [c]) 0 (Go.Lib.countB s (bS [c])) s).map (·.data.toList) = splitL c s.data.toList := by
  rw [Go.Lib.splitB_data]
  exact splitK_one c _ _ (Nat.le_refl _)
theorem cut_one {c : UInt8} {a r : Bs} (h : c ∉ a) : Go.Lib.cut (a ++ c :: r) [c] = (a, r, true) := by
  have hi : Go.Lib.index (a ++ c :: r) [c] = (a.length : Int) := by
    rcases index_one c (a ++ c :: r) with ⟨_, h2⟩ | ⟨a', r', e, ha, h1⟩
    · exact absurd (by simp) h2
    · have h3 := splitL_cons (c := c) r h
      rw [e, splitL_cons r' ha] at h3
      rw [h1]
      simp only [List.cons.injEq] at h3
      rw [h3.1]
  unfold Go.Lib.cut
  rw [hi, if_pos (by omega), Int.toNat_natCast, List.take_left, List.length_singleton, ← List.drop_drop, List.drop_left]
  rfl
theorem map_back {α : Type} {f : α → α} : ∀ {l : List α}, (∀ x, x ∈ l → f x = x) → l.map f = l
  | [], _ => rfl
  | a :: l, h => by rw [List.map_cons, h a (by simp), map_back (fun x hx => h x (by simp [hx]))]
theorem joinL_snoc (c : UInt8) : ∀ (ws : List Bs) (w : Bs), ws ≠ [] → joinL c (ws ++ [w]) = joinL c ws ++ c :: w
  | [], _, h => absurd rfl h
  | [a], w, _ => rfl
  | a :: b :: r, w, _ => by
    have := joinL_snoc c (b :: r) w (List.cons_ne_nil _ _)
    rw [List.cons_append, List.cons_append, joinL, ← List.cons_append, this, joinL, List.append_assoc, List.cons_append]
theorem joinL_len {c : UInt8} {k : Nat} : ∀ {ws : List Bs}, (∀ w, w ∈ ws → w.length ≤ k) → (joinL c ws).length ≤ (k + 1) * ws.length
  | [], _ => by simp [joinL]
  | [a], h => by
    have := h a (by simp)
    simp only [joinL, List.length_singleton]
    omega
  | a :: b :: r, h => by
    have h1 := h a (by simp)
    have h2 := joinL_len (c := c) (k := k) (ws := b :: r) (fun w hw => h w (by simp at hw ⊢; exact .inr hw))
    rw [joinL, List.length_append, List.length_cons, List.length_cons, Nat.mul_add]
    omega
theorem dg_len {n : Int} (k : Nat) (h0 : 0 ≤ n) (h : n.toNat < 10 ^ (k + 1)) : (dg n).length ≤ k + 1 := dd_len_le k n.toNat h
theorem join_joinL (c : UInt8) : ∀ ws : List Bs, Go.Lib.join ws [c] = joinL c ws
  | [] => rfl
  | [a] => by rw [Go.Lib.join_one]; rfl
  | a :: b :: r => by
    have ih := join_joinL c (b :: r)
    rw [Go.Lib.join_cons] at ih ⊢
    rw [joinL, ← ih]
    simp [Go.Lib.joinTail]
theorem dd_inj {u v : Nat} (h : decDigits u = decDigits v) : u = v := by
  have h1 := dd_read u
  rw [h, dd_read] at h1
  exact (Option.some.inj h1).symm
theorem dg_inj {n m : Int} (h0 : 0 ≤ n) (h1 : 0 ≤ m) (h : dg n = dg m) : n = m := by have := dd_inj h; omega
theorem not_dig {n : Int} {x : UInt8} (h : x.toNat < 48 ∨ 57 < x.toNat) : x ∉ dg n := fun hm => by have := dg_digit hm; omega
theorem map_dg_inj : ∀ {E F : List Int}, (∀ x, x ∈ E → 0 ≤ x) → (∀ x, x ∈ F → 0 ≤ x) → E.map dg = F.map dg → E = F
  | [], [], _, _, _ => rfl
  | [], _ :: _, _, _, h => by cases h
  | _ :: _, [], _, _, h => by cases h
  | a :: E, b :: F, h1, h2, h => by
    simp only [List.map_cons, List.cons.injEq] at h
    rw [dg_inj (h1 a (by simp)) (h2 b (by simp)) h.1, map_dg_inj (fun x hx => h1 x (by simp [hx])) (fun x hx => h2 x (by simp [hx])) h.2]
/-- What strconv reads, and whether it is written so. -/
def rdN (l : Bs) : Int := match Go.Lib.parseIntB 64 l with
  | .ok v => v
  | .range => Go.Lib.intSat 64 l
  | _ => 0
def rdOk (l : Bs) : Bool := match Go.Lib.parseIntB 64 l with
  | .ok v => itoa v == l
  | _ => false
theorem rd_dg {n : Int} (h0 : 0 ≤ n) (h1 : n < 1000000000000000000) : rdN (dg n) = n ∧ rdOk (dg n) = true := by
  unfold rdN rdOk
  rw [atoi_dg h0 h1]
  refine ⟨rfl, ?_⟩
  show (itoa n == dg n) = true
  rw [itoa_dg h0]
  exact beq_self_eq_true _
theorem rd_back {l : Bs} (h : rdOk l = true) (h0 : 0 ≤ rdN l) : dg (rdN l) = l := by
  unfold rdOk at h
  unfold rdN at h0 ⊢
  split at h
  · rename_i v hv
    rw [hv] at h0 ⊢
    rw [← itoa_dg h0]
    exact eq_of_beq h
  · cases h
theorem rdN_bd (l : Bs) : -9223372036854775808 ≤ rdN l ∧ rdN l ≤ 9223372036854775807 := by
  unfold rdN
  split
  · rename_i v hv
    rw [Go.Lib.parseIntB_64] at hv
    exact Go.Lib.atoiAll_bounds hv
  · rw [Go.Lib.intSat_64]
    exact Go.Lib.atoiSat_bounds l
  · omega
def shN (l : Bs) : Int := if (rdOk l && inR (rdN l) 0 32767) = true then rdN l else -1
theorem shN_dg {n : Int} (h0 : 0 ≤ n) (h1 : n ≤ 32767) : shN (dg n) = n := by
  obtain ⟨e1, e2⟩ := rd_dg h0 (by omega : n < 1000000000000000000)
  unfold shN
  rw [e1, e2, if_pos]
  simp [inR]
  omega
theorem shN_bd (l : Bs) : -1 ≤ shN l ∧ shN l ≤ 32767 := by
  unfold shN
  split
  · rename_i h
    simp only [Bool.and_eq_true, inR, decide_eq_true_eq] at h
    omega
  · omega
end Go.Proofs.YtkoaangakmpggaaGreatDoor
end
section
/- The shelf's contracts at this dump, in plain words (laid by the kit's lay-shelf and lay-plain; pruned). No condition. -/
namespace Go.Proofs
open Go.Shelf
def Tryz.lays169_ren : Go.Shelf.Ren := ⟨fun | 169 => 74 | n => n, fun | 70 => 101 | 9 => 9 | 0 => 0 | 72 => 103 | 37 => 22 | 127 => 130 | 3 => 3 | 5 => 5 | n => n, fun | n => n⟩
theorem Tryz.lays169 : Go.Proofs.Lays.n169 Tryz.prog Tryz.lays169_ren := {
  mixed := by kernel_rfl
  f169 := Tryz.func74.trans (congrArg some (by kernel_rfl))
  t0 := Tryz.underlying0
  a0 := Tryz.isAgg0
  z0 := Tryz.sizeOf0
  v0 := Tryz.zeroValue0
  t3 := Tryz.underlying3
  a3 := Tryz.isAgg3
  z3 := Tryz.sizeOf3
  v3 := Tryz.zeroValue3
  t9 := Tryz.underlying9
  a9 := Tryz.isAgg9
  z9 := Tryz.sizeOf9
  v9 := Tryz.zeroValue9
  t37 := Tryz.underlying22
  a37 := Tryz.isAgg22
  z37 := Tryz.sizeOf22
  v37 := Tryz.zeroValue22
  t70 := Tryz.underlying101
  a70 := Tryz.isAgg101
  z70 := Tryz.sizeOf101
  v70 := Tryz.zeroValue101
  t72 := Tryz.underlying103
  a72 := Tryz.isAgg103
  z72 := Tryz.sizeOf103
  v72 := Tryz.zeroValue103
  t127 := Tryz.underlying130
  a127 := Tryz.isAgg130
  z127 := Tryz.sizeOf130
  v127 := Tryz.zeroValue130 }
theorem Tryz.Builder_Extra_169 : Builder.Extra Tryz.prog Tryz.lays169_ren := {
  sizeBuilder := by kernel_rfl
  liesBuilder := by kernel_rfl
  t5 := Tryz.underlying5
  a5 := Tryz.isAgg5
  z5 := Tryz.sizeOf5
  v5 := Tryz.zeroValue5
  infoByte := by kernel_rfl
  cellsByte := by kernel_rfl
  sizeByte := by kernel_rfl
  neB5 := by decide }
def Tryz.lays156_ren : Go.Shelf.Ren := ⟨fun | 156 => 75 | 165 => 104 | 166 => 73 | 169 => 74 | 240 => 103 | 241 => 118 | 276 => 117 | 277 => 130 | n => n, fun | 31 => 96 | 9 => 9 | 3 => 3 | 4 => 4 | 0 => 0 | 20 => 20 | 72 => 103 | 76 => 106 | 70 => 101 | 37 => 22 | 75 => 105 | 127 => 130 | 164 => 141 | 5 => 5 | 80 => 108 | n => n, fun | n => n⟩
theorem Tryz.lays156 : Go.Proofs.Lays.n156 Tryz.prog Tryz.lays156_ren := {
  mixed := by kernel_rfl
  f156 := Tryz.func75.trans (congrArg some (by kernel_rfl))
  f165 := Tryz.func104.trans (congrArg some (by kernel_rfl))
  f166 := Tryz.func73.trans (congrArg some (by kernel_rfl))
  f169 := Tryz.func74.trans (congrArg some (by kernel_rfl))
  f240 := Tryz.func103.trans (congrArg some (by kernel_rfl))
  f241 := Tryz.func118.trans (congrArg some (by kernel_rfl))
  f276 := Tryz.func117.trans (congrArg some (by kernel_rfl))
  f277 := Tryz.func130.trans (congrArg some (by kernel_rfl))
  t0 := Tryz.underlying0
  a0 := Tryz.isAgg0
  z0 := Tryz.sizeOf0
  v0 := Tryz.zeroValue0
  t3 := Tryz.underlying3
  a3 := Tryz.isAgg3
  z3 := Tryz.sizeOf3
  v3 := Tryz.zeroValue3
  t4 := Tryz.underlying4
  a4 := Tryz.isAgg4
  z4 := Tryz.sizeOf4
  v4 := Tryz.zeroValue4
  t9 := Tryz.underlying9
  a9 := Tryz.isAgg9
  z9 := Tryz.sizeOf9
  v9 := Tryz.zeroValue9
  t20 := Tryz.underlying20
  a20 := Tryz.isAgg20
  z20 := Tryz.sizeOf20
  v20 := Tryz.zeroValue20
  t31 := Tryz.underlying96
  a31 := Tryz.isAgg96
  z31 := Tryz.sizeOf96
  v31 := Tryz.zeroValue96
  t37 := Tryz.underlying22
  a37 := Tryz.isAgg22
  z37 := Tryz.sizeOf22
  v37 := Tryz.zeroValue22
  t70 := Tryz.underlying101
  a70 := Tryz.isAgg101
  z70 := Tryz.sizeOf101
  v70 := Tryz.zeroValue101
  t72 := Tryz.underlying103
  a72 := Tryz.isAgg103
  z72 := Tryz.sizeOf103
  v72 := Tryz.zeroValue103
  t75 := Tryz.underlying105
  a75 := Tryz.isAgg105
  z75 := Tryz.sizeOf105
  v75 := Tryz.zeroValue105
  t76 := Tryz.underlying106
  a76 := Tryz.isAgg106
  z76 := Tryz.sizeOf106
  v76 := Tryz.zeroValue106
  t127 := Tryz.underlying130
  a127 := Tryz.isAgg130
  z127 := Tryz.sizeOf130
  v127 := Tryz.zeroValue130
  t164 := Tryz.underlying141
  a164 := Tryz.isAgg141
  z164 := Tryz.sizeOf141
  v164 := Tryz.zeroValue141 }
theorem Tryz.Builder_Extra_156 : Builder.Extra Tryz.prog Tryz.lays156_ren := {
  sizeBuilder := by kernel_rfl
  liesBuilder := by kernel_rfl
  t5 := Tryz.underlying5
  a5 := Tryz.isAgg5
  z5 := Tryz.sizeOf5
  v5 := Tryz.zeroValue5
  infoByte := by kernel_rfl
  cellsByte := by kernel_rfl
  sizeByte := by kernel_rfl
  neB5 := by decide }
open Go.RowKit in
/-- A contract of the shelf at this dump. -/
theorem Tryz.strings_Join_none (a : Option Addr) (c : Nat) (sep : ByteArray) (w : World) :
    Calls Tryz.prog 75 #[.slice a 0 c, .string sep] w fun e w' => e = .returned (.string ⟨#[]⟩) ∧ w' = w := Any.strings_Join_none Tryz.lays156 Tryz.Builder_Extra_156 a c sep w
open Go.RowKit in
/-- A contract of the shelf at this dump. -/
theorem Tryz.strings_Join (bk o c : Nat) (xs : List ByteArray) (sep : ByteArray) (w : World) (hcells : ∀ (j : Nat) x, xs[j]? = some x → w.cell? ⟨bk, o + j, none⟩ = some (.string x)) (hbk : bk < w.heap.size) (hN : xs.length ≤ 140737488355328) (hcap : xs.length ≤ c) (hlen : (Lib.join (xs.map (·.data.toList)) sep.data.toList).length ≤ 140737488355328) :
    Calls Tryz.prog 75 #[.slice (some ⟨bk, o, none⟩) xs.length c, .string sep] w fun e w' => e = .returned (.string ⟨(Lib.join (xs.map (·.data.toList)) sep.data.toList).toArray⟩) ∧ Below w.heap.size w w' := Any.strings_Join Tryz.lays156 Tryz.Builder_Extra_156 bk o c xs sep w hcells hbk hN hcap hlen
def Tryz.lays137_ren : Go.Shelf.Ren := ⟨fun | 137 => 97 | 217 => 113 | 266 => 126 | n => n, fun | 9 => 9 | 5 => 5 | 3 => 3 | n => n, fun | n => n⟩
theorem Tryz.lays137 : Go.Proofs.Lays.n137 Tryz.prog Tryz.lays137_ren := {
  mixed := by kernel_rfl
  f137 := Tryz.func97.trans (congrArg some (by kernel_rfl))
  f217 := Tryz.func113.trans (congrArg some (by kernel_rfl))
  f266 := Tryz.func126.trans (congrArg some (by kernel_rfl))
  t3 := Tryz.underlying3
  a3 := Tryz.isAgg3
  z3 := Tryz.sizeOf3
  v3 := Tryz.zeroValue3
  t5 := Tryz.underlying5
  a5 := Tryz.isAgg5
  z5 := Tryz.sizeOf5
  v5 := Tryz.zeroValue5
  t9 := Tryz.underlying9
  a9 := Tryz.isAgg9
  z9 := Tryz.sizeOf9
  v9 := Tryz.zeroValue9 }
open Go.RowKit in
/-- A contract of the shelf at this dump. -/
theorem Tryz.strings_IndexByte (s : ByteArray) (c : Int) (w : World) :
    Calls Tryz.prog 97 #[.string s, .int .u8 c] w fun e w' => e = .returned (.int .i64 (Lib.indexByte s.data.toList c.toNat.toUInt8)) ∧ w' = w := Any.strings_IndexByte Tryz.lays137 s c w
open Go.RowKit in
/-- A contract of the shelf at this dump. -/
theorem Tryz.Builder_String_k (B b : Nat) (l : List UInt8) (w : World) (h : Lib.IsBuilderF 103 5 B b (Lib.byteCells l) w) (h0 : l ≠ []) :
    Calls Tryz.prog 74 #[.pointer (some ⟨b, 0, none⟩)] w fun e w' => e = .returned (.string ⟨l.toArray⟩) ∧ (Lib.IsBuilderF 103 5 B b (Lib.byteCells l) w' ∧ Below B w w' ∧ Lib.OthersKept 5 (some b) w w') := Any.Builder_String_k Tryz.lays169 Tryz.Builder_Extra_169 B b l w h h0
open Go.RowKit in
/-- A contract of the shelf at this dump. -/
theorem Tryz.Builder_String_empty_k (B b : Nat) (w : World) (h : Lib.IsBuilderF 103 5 B b [] w) (hBw : B ≤ w.heap.size) :
    Calls Tryz.prog 74 #[.pointer (some ⟨b, 0, none⟩)] w fun e w' => e = .returned (.string ⟨#[]⟩) ∧ (Lib.IsBuilderF 103 5 B b [] w' ∧ Below B w w' ∧ Lib.OthersKept 5 (some b) w w') := Any.Builder_String_empty_k Tryz.lays169 Tryz.Builder_Extra_169 B b w h hBw
open Go.RowKit in
/-- A contract of the shelf at this dump. -/
theorem Tryz.Builder_String_any_k (B b : Nat) (l : List UInt8) (w : World) (h : Lib.IsBuilderF 103 5 B b (Lib.byteCells l) w) (hBw : B ≤ w.heap.size) :
    Calls Tryz.prog 74 #[.pointer (some ⟨b, 0, none⟩)] w fun e w' => e = .returned (.string ⟨l.toArray⟩) ∧ (Lib.IsBuilderF 103 5 B b (Lib.byteCells l) w' ∧ Below B w w' ∧ Lib.OthersKept 5 (some b) w w') := Any.Builder_String_any_k Tryz.lays169 Tryz.Builder_Extra_169 B b l w h hBw
def Tryz.laysM173_ren : Go.Shelf.Ren := ⟨fun | 173 => 105 | 246 => 119 | 283 => 131 | 284 => 132 | 285 => 133 | 286 => 134 | 129 => 143 | 317 => 142 | 318 => 144 | 319 => 145 | 320 => 146 | 337 => 152 | 338 => 153 | n => n, fun | 2 => 2 | 3 => 3 | 9 => 9 | 4 => 4 | 171 => 150 | 0 => 0 | 53 => 80 | 37 => 22 | 5 => 5 | 173 => 153 | 212 => 165 | 51 => 155 | 20 => 20 | 213 => 166 | 46 => 134 | 232 => 182 | 233 => 183 | n => n, fun | 17 => 1 | 18 => 6 | 19 => 7 | n => n⟩
theorem Tryz.laysM173 : Go.Proofs.LaysM.n173 Tryz.prog Tryz.laysM173_ren := {
  mixed := by kernel_rfl
  f129 := Tryz.func143.trans (congrArg some (by kernel_rfl))
  f173 := Tryz.func105.trans (congrArg some (by kernel_rfl))
  f246 := Tryz.func119.trans (congrArg some (by kernel_rfl))
  f283 := Tryz.func131.trans (congrArg some (by kernel_rfl))
  f284 := Tryz.func132.trans (congrArg some (by kernel_rfl))
  f285 := Tryz.func133.trans (congrArg some (by kernel_rfl))
  f286 := Tryz.func134.trans (congrArg some (by kernel_rfl))
  f317 := Tryz.func142.trans (congrArg some (by kernel_rfl))
  f318 := Tryz.func144.trans (congrArg some (by kernel_rfl))
  f319 := Tryz.func145.trans (congrArg some (by kernel_rfl))
  f320 := Tryz.func146.trans (congrArg some (by kernel_rfl))
  f337 := Tryz.func152.trans (congrArg some (by kernel_rfl))
  f338 := Tryz.func153.trans (congrArg some (by kernel_rfl))
  t0 := Tryz.underlying0
  a0 := Tryz.isAgg0
  z0 := Tryz.sizeOf0
  v0 := Tryz.zeroValue0
  t2 := Tryz.underlying2
  a2 := Tryz.isAgg2
  z2 := Tryz.sizeOf2
  v2 := Tryz.zeroValue2
  t3 := Tryz.underlying3
  a3 := Tryz.isAgg3
  z3 := Tryz.sizeOf3
  v3 := Tryz.zeroValue3
  t4 := Tryz.underlying4
  a4 := Tryz.isAgg4
  z4 := Tryz.sizeOf4
  v4 := Tryz.zeroValue4
  t5 := Tryz.underlying5
  a5 := Tryz.isAgg5
  z5 := Tryz.sizeOf5
  v5 := Tryz.zeroValue5
  t9 := Tryz.underlying9
  a9 := Tryz.isAgg9
  z9 := Tryz.sizeOf9
  v9 := Tryz.zeroValue9
  t20 := Tryz.underlying20
  a20 := Tryz.isAgg20
  z20 := Tryz.sizeOf20
  v20 := Tryz.zeroValue20
  t37 := Tryz.underlying22
  a37 := Tryz.isAgg22
  z37 := Tryz.sizeOf22
  v37 := Tryz.zeroValue22
  t46 := Tryz.underlying134
  a46 := Tryz.isAgg134
  z46 := Tryz.sizeOf134
  v46 := Tryz.zeroValue134
  t51 := Tryz.underlying155
  a51 := Tryz.isAgg155
  z51 := Tryz.sizeOf155
  v51 := Tryz.zeroValue155
  t53 := Tryz.underlying80
  a53 := Tryz.isAgg80
  z53 := Tryz.sizeOf80
  v53 := Tryz.zeroValue80
  t171 := Tryz.underlying150
  a171 := Tryz.isAgg150
  z171 := Tryz.sizeOf150
  v171 := Tryz.zeroValue150
  t173 := Tryz.underlying153
  a173 := Tryz.isAgg153
  z173 := Tryz.sizeOf153
  v173 := Tryz.zeroValue153
  t212 := Tryz.underlying165
  a212 := Tryz.isAgg165
  z212 := Tryz.sizeOf165
  v212 := Tryz.zeroValue165
  t213 := Tryz.underlying166
  a213 := Tryz.isAgg166
  z213 := Tryz.sizeOf166
  t232 := Tryz.underlying182
  a232 := Tryz.isAgg182
  z232 := Tryz.sizeOf182
  v232 := Tryz.zeroValue182
  t233 := Tryz.underlying183
  a233 := Tryz.isAgg183
  z233 := Tryz.sizeOf183
  v233 := Tryz.zeroValue183
  g17 := by kernel_rfl
  g18 := by kernel_rfl
  g19 := by kernel_rfl
  i0 := by kernel_rfl
  i2 := by kernel_rfl
  i3 := by kernel_rfl
  i4 := by kernel_rfl
  i5 := by kernel_rfl
  i9 := by kernel_rfl
  i20 := by kernel_rfl
  i37 := by kernel_rfl
  i46 := by kernel_rfl
  i51 := by kernel_rfl
  i53 := by kernel_rfl
  i171 := by kernel_rfl
  i173 := by kernel_rfl
  i212 := by kernel_rfl
  i232 := by kernel_rfl
  i233 := by kernel_rfl
  m17 := by kernel_rfl
  m18 := by kernel_rfl
  m19 := by kernel_rfl }
open Go.RowKit Go.Sort Go.Lib in
/-- A contract of the shelf at this dump. -/
theorem Tryz.strconv_FormatInt_10 (n : Int) (h0 : -9223372036854775808 ≤ n) (h1 : n ≤ 9223372036854775807) (w : World) (htab : Lib.TabIs Tryz.prog w "internal/strconv.uint64pow10" .u64 Lib.pow10Tab) :
    Calls Tryz.prog 105 #[.int .i64 n, .int .i64 10] w fun e w' => e = .returned (.string ⟨(Lib.itoa n).toArray⟩) ∧ ∃ k os, w' = grow (w.drewN k) os := Any.strconv_FormatInt_10 Tryz.laysM173 n h0 h1 w htab
def Tryz.lays145_ren : Go.Shelf.Ren := ⟨fun | 145 => 71 | 220 => 100 | 219 => 112 | 217 => 113 | 225 => 123 | 224 => 124 | 267 => 125 | 266 => 126 | 314 => 135 | n => n, fun | 9 => 9 | 4 => 4 | 59 => 98 | 3 => 3 | 5 => 5 | 46 => 134 | 146 => 156 | 51 => 155 | n => n, fun | 1 => 0 | n => n⟩
theorem Tryz.lays145 : Go.Proofs.Lays.n145 Tryz.prog Tryz.lays145_ren := {
  mixed := by kernel_rfl
  f145 := Tryz.func71.trans (congrArg some (by kernel_rfl))
  f217 := Tryz.func113.trans (congrArg some (by kernel_rfl))
  f219 := Tryz.func112.trans (congrArg some (by kernel_rfl))
  f220 := Tryz.func100.trans (congrArg some (by kernel_rfl))
  f224 := Tryz.func124.trans (congrArg some (by kernel_rfl))
  f225 := Tryz.func123.trans (congrArg some (by kernel_rfl))
  f266 := Tryz.func126.trans (congrArg some (by kernel_rfl))
  f267 := Tryz.func125.trans (congrArg some (by kernel_rfl))
  f314 := Tryz.func135.trans (congrArg some (by kernel_rfl))
  t3 := Tryz.underlying3
  a3 := Tryz.isAgg3
  z3 := Tryz.sizeOf3
  v3 := Tryz.zeroValue3
  t4 := Tryz.underlying4
  a4 := Tryz.isAgg4
  z4 := Tryz.sizeOf4
  v4 := Tryz.zeroValue4
  t5 := Tryz.underlying5
  a5 := Tryz.isAgg5
  z5 := Tryz.sizeOf5
  v5 := Tryz.zeroValue5
  t9 := Tryz.underlying9
  a9 := Tryz.isAgg9
  z9 := Tryz.sizeOf9
  v9 := Tryz.zeroValue9
  t46 := Tryz.underlying134
  a46 := Tryz.isAgg134
  z46 := Tryz.sizeOf134
  v46 := Tryz.zeroValue134
  t51 := Tryz.underlying155
  a51 := Tryz.isAgg155
  z51 := Tryz.sizeOf155
  v51 := Tryz.zeroValue155
  t59 := Tryz.underlying98
  a59 := Tryz.isAgg98
  z59 := Tryz.sizeOf98
  v59 := Tryz.zeroValue98
  t146 := Tryz.underlying156
  a146 := Tryz.isAgg156
  z146 := Tryz.sizeOf156
  v146 := Tryz.zeroValue156
  g1 := by kernel_rfl }
open Go.RowKit Go.Lib in
/-- A contract of the shelf at this dump. -/
theorem Tryz.strings_Cut (s sep : ByteArray) (m : Int) (w : World) (hs : s.size < 4294967281) (hm : w.cell? ⟨0, 0, none⟩ = some (.int .i64 m)) :
    Calls Tryz.prog 71 #[.string s, .string sep] w fun e w' => e = .returned (.tuple #[.string ⟨(Lib.cut s.data.toList sep.data.toList).1.toArray⟩, .string ⟨(Lib.cut s.data.toList sep.data.toList).2.1.toArray⟩, .bool (Lib.cut s.data.toList sep.data.toList).2.2]) ∧ ∃ n, w' = w.drewN n := Any.strings_Cut Tryz.lays145 s sep m w hs hm
def Tryz.lays138_ren : Go.Shelf.Ren := ⟨fun | 138 => 67 | 195 => 93 | 218 => 94 | 143 => 95 | 219 => 112 | 217 => 113 | 225 => 123 | 224 => 124 | 267 => 125 | 266 => 126 | 314 => 135 | n => n, fun | 9 => 9 | 3 => 3 | 4 => 4 | 5 => 5 | 0 => 0 | 46 => 134 | 146 => 156 | 51 => 155 | n => n, fun | 1 => 0 | n => n⟩
theorem Tryz.lays138 : Go.Proofs.Lays.n138 Tryz.prog Tryz.lays138_ren := {
  mixed := by kernel_rfl
  f138 := Tryz.func67.trans (congrArg some (by kernel_rfl))
  f143 := Tryz.func95.trans (congrArg some (by kernel_rfl))
  f195 := Tryz.func93.trans (congrArg some (by kernel_rfl))
  f217 := Tryz.func113.trans (congrArg some (by kernel_rfl))
  f218 := Tryz.func94.trans (congrArg some (by kernel_rfl))
  f219 := Tryz.func112.trans (congrArg some (by kernel_rfl))
  f224 := Tryz.func124.trans (congrArg some (by kernel_rfl))
  f225 := Tryz.func123.trans (congrArg some (by kernel_rfl))
  f266 := Tryz.func126.trans (congrArg some (by kernel_rfl))
  f267 := Tryz.func125.trans (congrArg some (by kernel_rfl))
  f314 := Tryz.func135.trans (congrArg some (by kernel_rfl))
  t0 := Tryz.underlying0
  a0 := Tryz.isAgg0
  z0 := Tryz.sizeOf0
  v0 := Tryz.zeroValue0
  t3 := Tryz.underlying3
  a3 := Tryz.isAgg3
  z3 := Tryz.sizeOf3
  v3 := Tryz.zeroValue3
  t4 := Tryz.underlying4
  a4 := Tryz.isAgg4
  z4 := Tryz.sizeOf4
  v4 := Tryz.zeroValue4
  t5 := Tryz.underlying5
  a5 := Tryz.isAgg5
  z5 := Tryz.sizeOf5
  v5 := Tryz.zeroValue5
  t9 := Tryz.underlying9
  a9 := Tryz.isAgg9
  z9 := Tryz.sizeOf9
  v9 := Tryz.zeroValue9
  t46 := Tryz.underlying134
  a46 := Tryz.isAgg134
  z46 := Tryz.sizeOf134
  v46 := Tryz.zeroValue134
  t51 := Tryz.underlying155
  a51 := Tryz.isAgg155
  z51 := Tryz.sizeOf155
  v51 := Tryz.zeroValue155
  t146 := Tryz.underlying156
  a146 := Tryz.isAgg156
  z146 := Tryz.sizeOf156
  v146 := Tryz.zeroValue156
  g1 := by kernel_rfl }
open Go.RowKit Go.Lib in
/-- A contract of the shelf at this dump. -/
theorem Tryz.strings_Count_one (s : ByteArray) (c : UInt8) (w : World) :
    Calls Tryz.prog 67 #[.string s, .string ⟨#[c]⟩] w fun e w' => e = .returned (.int .i64 (Lib.countByte s.data.toList c)) ∧ w' = w := Any.strings_Count_one Tryz.lays138 s c w
def Tryz.lays100_ren : Go.Shelf.Ren := ⟨fun | 100 => 66 | 207 => 92 | n => n, fun | 9 => 9 | 4 => 4 | 3 => 3 | n => n, fun | n => n⟩
theorem Tryz.lays100 : Go.Proofs.Lays.n100 Tryz.prog Tryz.lays100_ren := {
  mixed := by kernel_rfl
  f100 := Tryz.func66.trans (congrArg some (by kernel_rfl))
  f207 := Tryz.func92.trans (congrArg some (by kernel_rfl))
  t3 := Tryz.underlying3
  a3 := Tryz.isAgg3
  z3 := Tryz.sizeOf3
  v3 := Tryz.zeroValue3
  t4 := Tryz.underlying4
  a4 := Tryz.isAgg4
  z4 := Tryz.sizeOf4
  v4 := Tryz.zeroValue4
  t9 := Tryz.underlying9
  a9 := Tryz.isAgg9
  z9 := Tryz.sizeOf9
  v9 := Tryz.zeroValue9 }
open Go.RowKit Go.Lib in
/-- A contract of the shelf at this dump. -/
theorem Tryz.strings_HasSuffix (s p : ByteArray) (w : World) (hs : s.size ≤ 9223372036854775807) :
    Calls Tryz.prog 66 #[.string s, .string p] w fun e w' => e = .returned (.bool (Lib.hasSuffix s.data.toList p.data.toList)) ∧ w' = w := Any.strings_HasSuffix Tryz.lays100 s p w hs
def Tryz.lays102_ren : Go.Shelf.Ren := ⟨fun | 102 => 69 | 209 => 98 | 207 => 92 | n => n, fun | 9 => 9 | 4 => 4 | 3 => 3 | n => n, fun | n => n⟩
theorem Tryz.lays102 : Go.Proofs.Lays.n102 Tryz.prog Tryz.lays102_ren := {
  mixed := by kernel_rfl
  f102 := Tryz.func69.trans (congrArg some (by kernel_rfl))
  f207 := Tryz.func92.trans (congrArg some (by kernel_rfl))
  f209 := Tryz.func98.trans (congrArg some (by kernel_rfl))
  t3 := Tryz.underlying3
  a3 := Tryz.isAgg3
  z3 := Tryz.sizeOf3
  v3 := Tryz.zeroValue3
  t4 := Tryz.underlying4
  a4 := Tryz.isAgg4
  z4 := Tryz.sizeOf4
  v4 := Tryz.zeroValue4
  t9 := Tryz.underlying9
  a9 := Tryz.isAgg9
  z9 := Tryz.sizeOf9
  v9 := Tryz.zeroValue9 }
open Go.RowKit Go.Lib in
/-- A contract of the shelf at this dump. -/
theorem Tryz.strings_TrimSuffix (s p : ByteArray) (w : World) (hs : s.size ≤ 9223372036854775807) :
    Calls Tryz.prog 69 #[.string s, .string p] w fun e w' => e = .returned (.string ⟨(Lib.trimSuffix s.data.toList p.data.toList).toArray⟩) ∧ w' = w := Any.strings_TrimSuffix Tryz.lays102 s p w hs
def Tryz.lays146_ren : Go.Shelf.Ren := ⟨fun | 146 => 70 | 221 => 99 | 268 => 114 | 138 => 67 | 143 => 95 | 195 => 93 | 197 => 127 | 218 => 94 | 219 => 112 | 260 => 136 | 217 => 113 | 225 => 123 | 224 => 124 | 267 => 125 | 266 => 126 | 314 => 135 | n => n, fun | 9 => 9 | 31 => 96 | 3 => 3 | 4 => 4 | 0 => 0 | 105 => 145 | 21 => 21 | 5 => 5 | 46 => 134 | 119 => 169 | 139 => 172 | 138 => 171 | 146 => 156 | 51 => 155 | n => n, fun | 1 => 0 | 3 => 2 | 4 => 3 | n => n⟩
theorem Tryz.lays146 : Go.Proofs.Lays.n146 Tryz.prog Tryz.lays146_ren := {
  mixed := by kernel_rfl
  f138 := Tryz.func67.trans (congrArg some (by kernel_rfl))
  f143 := Tryz.func95.trans (congrArg some (by kernel_rfl))
  f146 := Tryz.func70.trans (congrArg some (by kernel_rfl))
  f195 := Tryz.func93.trans (congrArg some (by kernel_rfl))
  f197 := Tryz.func127.trans (congrArg some (by kernel_rfl))
  f217 := Tryz.func113.trans (congrArg some (by kernel_rfl))
  f218 := Tryz.func94.trans (congrArg some (by kernel_rfl))
  f219 := Tryz.func112.trans (congrArg some (by kernel_rfl))
  f221 := Tryz.func99.trans (congrArg some (by kernel_rfl))
  f224 := Tryz.func124.trans (congrArg some (by kernel_rfl))
  f225 := Tryz.func123.trans (congrArg some (by kernel_rfl))
  f260 := Tryz.func136.trans (congrArg some (by kernel_rfl))
  f266 := Tryz.func126.trans (congrArg some (by kernel_rfl))
  f267 := Tryz.func125.trans (congrArg some (by kernel_rfl))
  f268 := Tryz.func114.trans (congrArg some (by kernel_rfl))
  f314 := Tryz.func135.trans (congrArg some (by kernel_rfl))
  t0 := Tryz.underlying0
  a0 := Tryz.isAgg0
  z0 := Tryz.sizeOf0
  v0 := Tryz.zeroValue0
  t3 := Tryz.underlying3
  a3 := Tryz.isAgg3
  z3 := Tryz.sizeOf3
  v3 := Tryz.zeroValue3
  t4 := Tryz.underlying4
  a4 := Tryz.isAgg4
  z4 := Tryz.sizeOf4
  v4 := Tryz.zeroValue4
  t5 := Tryz.underlying5
  a5 := Tryz.isAgg5
  z5 := Tryz.sizeOf5
  v5 := Tryz.zeroValue5
  t9 := Tryz.underlying9
  a9 := Tryz.isAgg9
  z9 := Tryz.sizeOf9
  v9 := Tryz.zeroValue9
  t21 := Tryz.underlying21
  a21 := Tryz.isAgg21
  z21 := Tryz.sizeOf21
  v21 := Tryz.zeroValue21
  t31 := Tryz.underlying96
  a31 := Tryz.isAgg96
  z31 := Tryz.sizeOf96
  v31 := Tryz.zeroValue96
  t46 := Tryz.underlying134
  a46 := Tryz.isAgg134
  z46 := Tryz.sizeOf134
  v46 := Tryz.zeroValue134
  t51 := Tryz.underlying155
  a51 := Tryz.isAgg155
  z51 := Tryz.sizeOf155
  v51 := Tryz.zeroValue155
  t105 := Tryz.underlying145
  a105 := Tryz.isAgg145
  z105 := Tryz.sizeOf145
  v105 := Tryz.zeroValue145
  t119 := Tryz.underlying169
  a119 := Tryz.isAgg169
  z119 := Tryz.sizeOf169
  t138 := Tryz.underlying171
  a138 := Tryz.isAgg171
  z138 := Tryz.sizeOf171
  v138 := Tryz.zeroValue171
  t139 := Tryz.underlying172
  a139 := Tryz.isAgg172
  z139 := Tryz.sizeOf172
  v139 := Tryz.zeroValue172
  t146 := Tryz.underlying156
  a146 := Tryz.isAgg156
  z146 := Tryz.sizeOf156
  v146 := Tryz.zeroValue156
  g1 := by kernel_rfl
  g3 := by kernel_rfl
  g4 := by kernel_rfl }
open Go.RowKit Go.Lib in
/-- A contract of the shelf at this dump. -/
theorem Tryz.strings_Split (s sep : ByteArray) (m : Int) (w : World) (hs : s.size < 4294967281) (hm : w.cell? ⟨0, 0, none⟩ = some (.int .i64 m)) (h1 : 1 ≤ sep.size) :
    Calls Tryz.prog 70 #[.string s, .string sep] w fun e w' =>
      e = .returned (.slice (some ⟨w.heap.size, 0, none⟩) (Lib.countB s sep + 1) (Lib.countB s sep + 1)) ∧ w' = w.alloc (.cells ((Lib.splitB sep 0 (Lib.countB s sep) s).map Value.string).toArray 9) := Any.strings_Split Tryz.lays146 (by kernel_rfl) s sep m w hs hm h1
end Go.Proofs
end
section
/- What a number's digits want of the world; the digits that the program and the reference write. -/
namespace Go.Proofs.YtkoaangakmpggaaGreatDoor
open Go.RowKit Go.Proofs.YtkoaangakmpggaaGreatDoorW.PrintWords Go.Proofs.YtkoaangakmpggaaGreatDoorW.PrintMore
set_option linter.unusedVariables false
set_option linter.unusedSimpArgs false
set_option maxRecDepth 100000

/-- The library's table of powers lies as its text lays it. -/
def Tab (w : World) : Prop := Lib.TabIs Tryz.prog w "internal/strconv.uint64pow10" .u64 Lib.pow10Tab
theorem gPow : Tryz.prog.globalNamed "internal/strconv.uint64pow10" = some 1 := by kernel_rfl
theorem Tab.below {w w1 : World} (h : Tab w) (hb : Below w.heap.size w w1) : Tab w1 := Go.Joins.var_stays gPow h hb (Nat.le_refl _)
theorem bgrow (w : World) (k : Nat) (os : Array Obj) : Below w.heap.size w (Go.Sort.grow (w.drewN k) os) :=
  ⟨rfl, rfl, rfl, by show w.heap.size ≤ (w.heap ++ os).size; simp, fun j hj => by show (w.heap ++ os)[j]? = w.heap[j]?; exact Array.getElem?_append_left hj⟩
theorem fmt_c (n : Int) (h0 : 0 ≤ n) (h1 : n ≤ 9223372036854775807) (w : World) (ht : Tab w) : Calls Tryz.prog 105 #[.int .i64 n, .int .i64 10] w (Ret w (.string (bS (dg n)))) :=
  (Tryz.strconv_FormatInt_10 n (by omega) h1 w ht).mono fun e w' ⟨he, k, os, hw⟩ => ⟨by rw [he, itoa_dg h0]; rfl, by rw [hw]; exact bgrow w k os⟩
theorem dec16_c (n : Int) (h0 : 0 ≤ n) (h1 : n ≤ 32767) (w : World) (ht : Tab w) : Calls Tryz.prog 76 #[.int .i16 n] w (Ret w (.string (bS (dg n)))) := by
  have HF := Aside0.mk (fmt_c n h0 (by omega) w ht)
  have hw : IntKind.i64.wrap n = n := by rw [IntKind.wrap_i64]; omega
  clear ht
  go_enter Tryz.func76, Tryz.ntmps76
  go_wp2_with (go_at_call 105; refine HF.out.mono ?_; rintro _ w1 ⟨rfl, hb1⟩)
  go_ret
  exact ⟨rfl, hb1⟩
theorem ret_str {a b : ByteArray} (h : a = b) : Ending.returned (.string a) = .returned (.string b) := by rw [h]
/-- One byte's text. -/
theorem oneC (W : World) (g : Nat) (v : Int) (h : W.cell? ⟨g, 0, none⟩ = some (.int .u8 v)) : (Kd.int .u8).C W (some ⟨g, 0, none⟩) [v].length [v] := by
  refine ⟨rfl, by simp, fun _ => ⟨_, rfl, fun j p hj => ?_⟩⟩
  match j, hj with
  | 0, hj => cases hj; exact ⟨_, rfl, rfl, fun i u hu => by match i, hu with | 0, hu => cases hu; simpa [Addr.add] using h⟩
theorem one_conv {W : World} {g : Nat} {v : Int} (h : W.cell? ⟨g, 0, none⟩ = some (.int .u8 v)) (c : Nat) : (convert 22 9 (.slice (some ⟨g, 0, none⟩) 1 c)).run Tryz.prog W = .ok (.string (bS [UInt8.ofNat v.toNat])) W :=
  Kd.C_string (xs := [v]) Tryz.underlying22 Tryz.underlying5 Tryz.underlying9 (oneC W g v h)
theorem wrap_dig {k : Int} (h0 : 0 ≤ k) (h1 : k < 10) : IntKind.u8.wrap (48 + k) = 48 + k := by simp only [IntKind.wrap, IntKind.bits, IntKind.signed, Bool.false_and, Bool.false_eq_true, if_false]; omega
theorem dg_step {n : Int} (h : 10 ≤ n) : dg n = dg (n / 10) ++ [UInt8.ofNat (48 + n % 10).toNat] := by
  unfold dg
  conv => lhs; rw [Go.Lib.decDigits, dif_neg (by omega)]
  have e1 : n.toNat / 10 = (n / 10).toNat := by omega
  have e2 : 48 + n.toNat % 10 = (48 + n % 10).toNat := by omega
  rw [e1, e2]
theorem bS_size (a : Bs) : (bS a).size = a.length := by simp [bS, ByteArray.size]
theorem conv_new (v : Int) (W : World) (c : Nat) : (convert 22 9 (.slice (some ⟨W.heap.size, 0, none⟩) 1 c)).run Tryz.prog (W.alloc (.cells #[.int .u8 v] 5)) = .ok (.string (bS [UInt8.ofNat v.toNat])) (W.alloc (.cells #[.int .u8 v] 5)) := one_conv ((blk_cell (blk_new W _) 0).trans rfl) c
end Go.Proofs.YtkoaangakmpggaaGreatDoor
end
section
/- Rows of texts that a call makes; their join. -/
namespace Go.Proofs.YtkoaangakmpggaaGreatDoor
open Go.RowKit Go.Proofs.YtkoaangakmpggaaGreatDoorW.PrintWords Go.Proofs.YtkoaangakmpggaaGreatDoorW.PrintMore
set_option linter.unusedVariables false
set_option linter.unusedSimpArgs false
set_option maxRecDepth 100000

theorem info_str : (Tryz.prog.info? 9).map (fun i => (i.zero, i.size, i.bytes)) = some (some (.string ByteArray.empty), 1, 16) := by kernel_rfl
section
variable {ops : Array Oper} {rest : List Oper} {o : Oper} {a : Act} {Q : Exit → Act → World → Prop}
/-- append(out, s). -/
theorem str_append {w W : World} (hgd : o.guard = none) (s x : Operand) (ho : o.op = .call { callee := .builtin .append, args := #[s, x], argTypes := #[96, 96] }) (v : Value) (xs : List ByteArray) (n : ByteArray)
    (hs : a.eval s = v) (hx : a.eval x = .slice (some ⟨W.heap.size, 0, none⟩) 1 1) (HO : Kd.string.R 9 W w.heap.size (fun _ => True) v xs) (HB : Below w.heap.size w W) (hl : xs.length ≤ 2097152)
    (h : ∀ v1 w1, Kd.string.R 9 w1 w.heap.size (fun _ => True) v1 (xs ++ [n]) → Below w.heap.size w w1 → W.grownBy w1 v.ownBlock → wpList Tryz.prog ops Q rest (a.put o.dst v1) w1) :
    wpList Tryz.prog ops Q (o :: rest) a (W.alloc (.cells #[.string n] 9)) :=
  Kd.R_append Kd.string (w0 := w) w.heap.size hgd s x 96 9 (.string ByteArray.empty) 16 ho Tryz.underlying96 info_str rfl (by decide) (by decide) v xs n [.string n] (fun _ => True) (fun _ => False) hs hx rfl (fun _ h => h.elim) (fun _ _ => trivial) HO HB HB.size (by omega)
    (fun v1 w1 h1 h2 h3 _ => h v1 w1 h1 h2 h3)
end
/-- A row of texts joined. -/
theorem join_R (L : List Bs) (sep : Bs) (v : Value) (w0 w : World) (hne : L ≠ []) (h : Kd.string.R 9 w w0.heap.size (fun _ => True) v (L.map bS)) (hn : L.length ≤ 2097152) (hl : (Go.Lib.join L sep).length ≤ 1000000) :
    Calls Tryz.prog 75 #[v, .string (bS sep)] w (Ret w (.string (bS (Go.Lib.join L sep)))) := by
  have hp : 0 < (L.map bS).length := by rw [List.length_map]; exact List.length_pos_iff.2 hne
  obtain ⟨g, cap, rfl, _, hg, _⟩ := Kd.R_form h hp
  have hcap := (Kd.R_reads' h).2.1
  have e : (L.map bS).map (fun x : ByteArray => x.data.toList) = L := by rw [List.map_map]; exact map_back (fun x _ => bS_toList x)
  have hj := Tryz.strings_Join g 0 cap (L.map bS) (bS sep) w (fun j x hj => by
    have hjl : j < (L.map bS).length := (List.getElem?_eq_some_iff.1 hj).1
    have := (Kd.R_cell ByteArray.empty h (j : Int) (by omega) (by omega)).1
    rw [Int.toNat_natCast] at this
    rw [Nat.zero_add, this, show Go.Proofs.YtkoaangakmpggaaGreatDoorW.PrintWords.rdOf ByteArray.empty (L.map bS) (j : Int) = x by
      unfold Go.Proofs.YtkoaangakmpggaaGreatDoorW.PrintWords.rdOf
      rw [Int.toNat_natCast, List.getD_eq_getElem?_getD, hj]
      rfl]) hg (by rw [List.length_map]; omega) hcap (by rw [e, bS_toList]; omega)
  rw [e, bS_toList] at hj
  exact hj

theorem dec64_c (n : Int) (h0 : 0 ≤ n) (h1 : n ≤ 9223372036854775807) (w : World) (ht : Tab w) : Calls Tryz.prog 116 #[.int .i64 n] w (Ret w (.string (bS (dg n)))) := by
  have HF := Aside0.mk (fmt_c n h0 (by omega) w ht)
  clear ht
  go_enter Tryz.func116, Tryz.ntmps116
  go_wp2_with (go_at_call 105; refine HF.out.mono ?_; rintro _ w1 ⟨rfl, hb1⟩)
  go_ret
  exact ⟨rfl, hb1⟩
end Go.Proofs.YtkoaangakmpggaaGreatDoor
end
section
/- Texts of layouts and of numbers, in plain Lean. -/
namespace Go.Proofs.YtkoaangakmpggaaGreatDoor
open Go.RowKit Go.Proofs.YtkoaangakmpggaaGreatDoorW.PrintWords Go.Proofs.YtkoaangakmpggaaGreatDoorW.PrintMore
set_option linter.unusedVariables false
set_option linter.unusedSimpArgs false
set_option maxRecDepth 100000

def lyT (E : List Int) : Bs := joinL 44 (E.map dg)
def plainE (E : List Int) : Bool := inR E.length 1 12 && E.all (fun x => inR x 0 60)
structure PlE (E : List Int) : Prop where
  n : 1 ≤ E.length ∧ E.length ≤ 12
  x : ∀ x, x ∈ E → 0 ≤ x ∧ x ≤ 60
theorem plE {E : List Int} (h : plainE E = true) : PlE E := by
  simp only [plainE, inR, Bool.and_eq_true, decide_eq_true_eq, List.all_eq_true] at h
  exact ⟨by omega, h.2⟩
theorem PlE.plain {E : List Int} (h : PlE E) : plainE E = true := by
  simp only [plainE, inR, Bool.and_eq_true, decide_eq_true_eq, List.all_eq_true]
  exact ⟨by have := h.n; omega, h.x⟩
def RdL (l : Bs) (E : List Int) : Prop := plainE E = true ∧ lyT E = l
theorem no44 {E : List Int} : ∀ w, w ∈ E.map dg → (44 : UInt8) ∉ w := by
  intro w hw
  obtain ⟨x, _, rfl⟩ := List.mem_map.1 hw
  exact not_dig (by decide)
theorem rdl_words {l : Bs} {E : List Int} (h : RdL l E) : splitL 44 l = E.map dg := by
  rw [← h.2]
  exact splitL_join (fun e => by have h1 := (plE h.1).n; have := congrArg List.length e; rw [List.length_map, List.length_nil] at this; omega) no44
theorem RdL.unique {l : Bs} {E F : List Int} (h : RdL l E) (h' : RdL l F) : E = F :=
  map_dg_inj (fun x hx => ((plE h.1).x x hx).1) (fun x hx => ((plE h'.1).x x hx).1) (by rw [← rdl_words h, ← rdl_words h'])
/-- How a layout is read. -/
def LyR (l : Bs) (E : List Int) (n err : Int) : Prop := (n = 0 ∧ RdL l E) ∨ (n = err ∧ E = [] ∧ ∀ F, ¬ RdL l F)
theorem LyR.unique {l : Bs} {E F : List Int} {n m err : Int} (h : LyR l E n err) (h' : LyR l F m err) : E = F ∧ n = m := by
  rcases h with ⟨h1, h2⟩ | ⟨h1, h2, h3⟩ <;> rcases h' with ⟨k1, k2⟩ | ⟨k1, k2, k3⟩
  · exact ⟨h2.unique k2, by rw [h1, k1]⟩
  · exact absurd h2 (k3 _)
  · exact absurd k2 (h3 _)
  · exact ⟨by rw [h2, k2], by rw [h1, k1]⟩
theorem rdl_many {l : Bs} (h : 12 < (splitL 44 l).length) (F : List Int) : ¬ RdL l F := fun hr => by
  rw [rdl_words hr, List.length_map] at h
  have := (plE hr.1).n
  omega
/-- The program's word is no number of a layout. -/
theorem rdl_bad {l w : Bs} (hw : w ∈ splitL 44 l) (h : (rdOk w && inR (rdN w) 0 60) = false) (F : List Int) : ¬ RdL l F := fun hr => by
  rw [rdl_words hr] at hw
  obtain ⟨x, hx, rfl⟩ := List.mem_map.1 hw
  have hx := (plE hr.1).x x hx
  obtain ⟨e1, e2⟩ := rd_dg hx.1 (by omega)
  rw [e1, e2] at h
  simp [inR] at h
  omega
theorem rdl_all {l : Bs} (hn : (splitL 44 l).length ≤ 12) (h : ∀ w, w ∈ splitL 44 l → (rdOk w && inR (rdN w) 0 60) = true) : RdL l ((splitL 44 l).map rdN) := by
  have hw : ∀ w, w ∈ splitL 44 l → dg (rdN w) = w ∧ 0 ≤ rdN w ∧ rdN w ≤ 60 := by
    intro w hw
    have := h w hw
    simp only [Bool.and_eq_true, inR, decide_eq_true_eq] at this
    exact ⟨rd_back this.1 this.2.1, this.2⟩
  have e : ((splitL 44 l).map rdN).map dg = splitL 44 l := by
    rw [List.map_map]
    conv => rhs; rw [← List.map_id (splitL 44 l)]
    exact List.map_congr_left (fun w h => (hw w h).1)
  refine ⟨PlE.plain ⟨⟨?_, by rw [List.length_map]; exact hn⟩, ?_⟩, ?_⟩
  · rw [List.length_map]
    exact List.length_pos_iff.2 (splitL_ne _ _)
  · intro x hx
    obtain ⟨w, h1, rfl⟩ := List.mem_map.1 hx
    exact (hw w h1).2
  · unfold lyT
    rw [e]
    exact joinL_split 44 l
/-- The reference's word is no number. -/
theorem rdl_numNone {l w : Bs} (hw : w ∈ splitL 44 l) (h : numL w = none) (F : List Int) : ¬ RdL l F := fun hr => by
  rw [rdl_words hr] at hw
  obtain ⟨x, hx, rfl⟩ := List.mem_map.1 hw
  have hx := (plE hr.1).x x hx
  rw [numL_dg hx.1 (by omega)] at h
  cases h
/-- The number of a word that the reference has read. -/
def nmL (w : Bs) : Int := ((numL w).getD 0 : Nat)
theorem rdl_num {l : Bs} (h : ∀ w, w ∈ splitL 44 l → ∃ n, numL w = some n) : lyT ((splitL 44 l).map nmL) = l := by
  have e : ((splitL 44 l).map nmL).map dg = splitL 44 l := by
    rw [List.map_map]
    conv => rhs; rw [← List.map_id (splitL 44 l)]
    exact List.map_congr_left (fun w hw => by
      obtain ⟨n, hn⟩ := h w hw
      show dg (nmL w) = w
      unfold nmL
      rw [hn]
      exact numL_back hn)
  unfold lyT
  rw [e]
  exact joinL_split 44 l
theorem rdl_notPlain {l : Bs} (h : ∀ w, w ∈ splitL 44 l → ∃ n, numL w = some n) (hp : plainE ((splitL 44 l).map nmL) = false) (F : List Int) : ¬ RdL l F := fun hr => by
  have e := rdl_words hr
  have : (splitL 44 l).map nmL = F := by
    rw [e, List.map_map]
    conv => rhs; rw [← List.map_id F]
    exact List.map_congr_left (fun x hx => by
      have hx := (plE hr.1).x x hx
      show nmL (dg x) = x
      unfold nmL
      rw [numL_dg hx.1 (by omega)]
      show ((x.toNat : Nat) : Int) = x
      omega)
  rw [this, hr.1] at hp
  cases hp
theorem lyT_len {E : List Int} (h : PlE E) : (lyT E).length ≤ 40 := by
  have h1 : ∀ w, w ∈ E.map dg → w.length ≤ 2 := by
    intro w hw
    obtain ⟨x, hx, rfl⟩ := List.mem_map.1 hw
    have := h.x x hx
    exact dg_len 1 this.1 (by omega)
  have h2 := joinL_len (c := 44) h1
  rw [List.length_map] at h2
  have := h.n
  unfold lyT
  omega
end Go.Proofs.YtkoaangakmpggaaGreatDoor
end
section
/- The texts of layouts: the program's and the reference's. -/
namespace Go.Proofs.YtkoaangakmpggaaGreatDoor
open Go.RowKit Go.Proofs.YtkoaangakmpggaaGreatDoorW.PrintWords Go.Proofs.YtkoaangakmpggaaGreatDoorW.PrintMore
set_option linter.unusedVariables false
set_option linter.unusedSimpArgs false
set_option maxRecDepth 100000

theorem withinT64_c (n lo hi : Int) (w : World) : Calls Tryz.prog 102 #[.int .i64 n, .int .i64 lo, .int .i64 hi] w (RetS w (.bool (inR n lo hi))) := by
  go_enter Tryz.func102, Tryz.ntmps102
  go_wp2
  all_goals (go_ret; refine ⟨ret_bool ?_, rfl⟩; unfold inR; rw [Bool.eq_iff_iff]; simp; omega)

theorem withinL_c (n lo hi : Int) (w : World) : Calls Tryz.prog 52 #[.int .i64 n, .int .i64 lo, .int .i64 hi] w (RetS w (.bool (inR n lo hi))) := by
  go_enter Tryz.func52, Tryz.ntmps52
  go_wp2
  all_goals (go_ret; refine ⟨ret_bool ?_, rfl⟩; unfold inR; rw [Bool.eq_iff_iff]; simp; omega)
theorem lyT_next {E : List Int} {k : Nat} {x : Int} (h0 : 1 ≤ k) (hx : E[k]? = some x) : lyT (E.take (k + 1)) = lyT (E.take k) ++ 44 :: dg x := by
  unfold lyT
  have hl : k < E.length := (List.getElem?_eq_some_iff.1 hx).1
  rw [take_snoc hx, List.map_append]
  exact joinL_snoc 44 _ _ (by
    intro h
    have := congrArg List.length h
    rw [List.length_map, List.length_take, List.length_nil] at this
    omega)
theorem lyT_one {E : List Int} {x : Int} (hx : E[0]? = some x) : lyT (E.take 1) = dg x := by
  unfold lyT
  rw [show E.take 1 = E.take 0 ++ [x] from take_snoc hx]
  rfl
theorem PlE.take {E : List Int} (h : PlE E) {k : Nat} (h0 : 1 ≤ k) : PlE (E.take k) := ⟨by have := h.n; rw [List.length_take]; omega, fun x hx => h.x x (List.mem_of_mem_take hx)⟩
end Go.Proofs.YtkoaangakmpggaaGreatDoor
end
section
/- The shelf's contracts for strconv.ParseInt at this dump, in plain words (laid by the kit's lay-shelf and lay-plain; pruned). No condition. -/
namespace Go.Proofs
open Go.Shelf
def Tryz.laysC174_ren : Go.Shelf.Ren := ⟨fun | 174 => 115 | 247 => 128 | 245 => 129 | 287 => 137 | 279 => 138 | 280 => 139 | 281 => 140 | 282 => 141 | 321 => 147 | 322 => 148 | 316 => 149 | 171 => 151 | 205 => 150 | 243 => 154 | 246 => 119 | 283 => 131 | 284 => 132 | 285 => 133 | 286 => 134 | 129 => 143 | 317 => 142 | 318 => 144 | 319 => 145 | 320 => 146 | 337 => 152 | 338 => 153 | n => n, fun | 9 => 9 | 3 => 3 | 2 => 2 | 75 => 105 | 85 => 138 | 4 => 4 | 167 => 158 | 5 => 5 | 53 => 80 | 175 => 159 | 46 => 134 | 168 => 161 | 37 => 22 | 0 => 0 | 210 => 176 | 21 => 21 | 127 => 130 | 145 => 181 | 143 => 179 | 171 => 150 | 173 => 153 | 212 => 165 | 51 => 155 | 20 => 20 | 213 => 166 | 232 => 182 | 233 => 183 | 80 => 108 | n => n, fun | 15 => 4 | 16 => 5 | 17 => 1 | 18 => 6 | 19 => 7 | n => n⟩
theorem Tryz.laysC174 : Go.Proofs.LaysC.n174 Tryz.prog Tryz.laysC174_ren := {
  mixed := by kernel_rfl
  f129 := Tryz.func143.trans (congrArg some (by kernel_rfl))
  f171 := Tryz.func151.trans (congrArg some (by kernel_rfl))
  f174 := Tryz.func115.trans (congrArg some (by kernel_rfl))
  f205 := Tryz.func150.trans (congrArg some (by kernel_rfl))
  f243 := Tryz.func154.trans (congrArg some (by kernel_rfl))
  f245 := Tryz.func129.trans (congrArg some (by kernel_rfl))
  f246 := Tryz.func119.trans (congrArg some (by kernel_rfl))
  f247 := Tryz.func128.trans (congrArg some (by kernel_rfl))
  f279 := Tryz.func138.trans (congrArg some (by kernel_rfl))
  f280 := Tryz.func139.trans (congrArg some (by kernel_rfl))
  f281 := Tryz.func140.trans (congrArg some (by kernel_rfl))
  f282 := Tryz.func141.trans (congrArg some (by kernel_rfl))
  f283 := Tryz.func131.trans (congrArg some (by kernel_rfl))
  f284 := Tryz.func132.trans (congrArg some (by kernel_rfl))
  f285 := Tryz.func133.trans (congrArg some (by kernel_rfl))
  f286 := Tryz.func134.trans (congrArg some (by kernel_rfl))
  f287 := Tryz.func137.trans (congrArg some (by kernel_rfl))
  f316 := Tryz.func149.trans (congrArg some (by kernel_rfl))
  f317 := Tryz.func142.trans (congrArg some (by kernel_rfl))
  f318 := Tryz.func144.trans (congrArg some (by kernel_rfl))
  f319 := Tryz.func145.trans (congrArg some (by kernel_rfl))
  f320 := Tryz.func146.trans (congrArg some (by kernel_rfl))
  f321 := Tryz.func147.trans (congrArg some (by kernel_rfl))
  f322 := Tryz.func148.trans (congrArg some (by kernel_rfl))
  f337 := Tryz.func152.trans (congrArg some (by kernel_rfl))
  f338 := Tryz.func153.trans (congrArg some (by kernel_rfl))
  t0 := Tryz.underlying0
  a0 := Tryz.isAgg0
  z0 := Tryz.sizeOf0
  v0 := Tryz.zeroValue0
  t2 := Tryz.underlying2
  a2 := Tryz.isAgg2
  z2 := Tryz.sizeOf2
  v2 := Tryz.zeroValue2
  t3 := Tryz.underlying3
  a3 := Tryz.isAgg3
  z3 := Tryz.sizeOf3
  v3 := Tryz.zeroValue3
  t4 := Tryz.underlying4
  a4 := Tryz.isAgg4
  z4 := Tryz.sizeOf4
  v4 := Tryz.zeroValue4
  t5 := Tryz.underlying5
  a5 := Tryz.isAgg5
  z5 := Tryz.sizeOf5
  v5 := Tryz.zeroValue5
  t9 := Tryz.underlying9
  a9 := Tryz.isAgg9
  z9 := Tryz.sizeOf9
  v9 := Tryz.zeroValue9
  t20 := Tryz.underlying20
  a20 := Tryz.isAgg20
  z20 := Tryz.sizeOf20
  v20 := Tryz.zeroValue20
  t21 := Tryz.underlying21
  a21 := Tryz.isAgg21
  z21 := Tryz.sizeOf21
  v21 := Tryz.zeroValue21
  t37 := Tryz.underlying22
  a37 := Tryz.isAgg22
  z37 := Tryz.sizeOf22
  v37 := Tryz.zeroValue22
  t46 := Tryz.underlying134
  a46 := Tryz.isAgg134
  z46 := Tryz.sizeOf134
  v46 := Tryz.zeroValue134
  t51 := Tryz.underlying155
  a51 := Tryz.isAgg155
  z51 := Tryz.sizeOf155
  v51 := Tryz.zeroValue155
  t53 := Tryz.underlying80
  a53 := Tryz.isAgg80
  z53 := Tryz.sizeOf80
  v53 := Tryz.zeroValue80
  t75 := Tryz.underlying105
  a75 := Tryz.isAgg105
  z75 := Tryz.sizeOf105
  v75 := Tryz.zeroValue105
  t85 := Tryz.underlying138
  a85 := Tryz.isAgg138
  z85 := Tryz.sizeOf138
  v85 := Tryz.zeroValue138
  t127 := Tryz.underlying130
  a127 := Tryz.isAgg130
  z127 := Tryz.sizeOf130
  v127 := Tryz.zeroValue130
  t143 := Tryz.underlying179
  a143 := Tryz.isAgg179
  z143 := Tryz.sizeOf179
  v143 := Tryz.zeroValue179
  t145 := Tryz.underlying181
  a145 := Tryz.isAgg181
  z145 := Tryz.sizeOf181
  v145 := Tryz.zeroValue181
  t167 := Tryz.underlying158
  a167 := Tryz.isAgg158
  z167 := Tryz.sizeOf158
  v167 := Tryz.zeroValue158
  t168 := Tryz.underlying161
  a168 := Tryz.isAgg161
  z168 := Tryz.sizeOf161
  v168 := Tryz.zeroValue161
  t171 := Tryz.underlying150
  a171 := Tryz.isAgg150
  z171 := Tryz.sizeOf150
  v171 := Tryz.zeroValue150
  t173 := Tryz.underlying153
  a173 := Tryz.isAgg153
  z173 := Tryz.sizeOf153
  v173 := Tryz.zeroValue153
  t175 := Tryz.underlying159
  a175 := Tryz.isAgg159
  z175 := Tryz.sizeOf159
  v175 := Tryz.zeroValue159
  t210 := Tryz.underlying176
  a210 := Tryz.isAgg176
  z210 := Tryz.sizeOf176
  v210 := Tryz.zeroValue176
  t212 := Tryz.underlying165
  a212 := Tryz.isAgg165
  z212 := Tryz.sizeOf165
  v212 := Tryz.zeroValue165
  t213 := Tryz.underlying166
  a213 := Tryz.isAgg166
  z213 := Tryz.sizeOf166
  t232 := Tryz.underlying182
  a232 := Tryz.isAgg182
  z232 := Tryz.sizeOf182
  v232 := Tryz.zeroValue182
  t233 := Tryz.underlying183
  a233 := Tryz.isAgg183
  z233 := Tryz.sizeOf183
  v233 := Tryz.zeroValue183
  g15 := by kernel_rfl
  g16 := by kernel_rfl
  g17 := by kernel_rfl
  g18 := by kernel_rfl
  g19 := by kernel_rfl
  t80 := Tryz.underlying108
  a80 := Tryz.isAgg108
  z80 := Tryz.sizeOf108
  v80 := Tryz.zeroValue108
  i0 := by kernel_rfl
  i2 := by kernel_rfl
  i3 := by kernel_rfl
  i4 := by kernel_rfl
  i5 := by kernel_rfl
  i9 := by kernel_rfl
  i20 := by kernel_rfl
  i21 := by kernel_rfl
  i37 := by kernel_rfl
  i46 := by kernel_rfl
  i51 := by kernel_rfl
  i53 := by kernel_rfl
  i75 := by kernel_rfl
  i80 := by kernel_rfl
  i85 := by kernel_rfl
  i127 := by kernel_rfl
  i143 := by kernel_rfl
  i145 := by kernel_rfl
  i167 := by kernel_rfl
  i168 := by kernel_rfl
  i171 := by kernel_rfl
  i173 := by kernel_rfl
  i175 := by kernel_rfl
  i210 := by kernel_rfl
  i212 := by kernel_rfl
  i232 := by kernel_rfl
  i233 := by kernel_rfl
  m15 := by kernel_rfl
  m16 := by kernel_rfl
  m17 := by kernel_rfl
  m18 := by kernel_rfl
  m19 := by kernel_rfl
  c0 := by kernel_rfl
  c2 := by kernel_rfl
  c3 := by kernel_rfl
  c4 := by kernel_rfl
  c5 := by kernel_rfl
  c9 := by kernel_rfl
  c20 := by kernel_rfl
  c21 := by kernel_rfl
  c37 := by kernel_rfl
  c46 := by kernel_rfl
  c51 := by kernel_rfl
  c53 := by kernel_rfl
  c75 := by kernel_rfl
  c80 := by kernel_rfl
  c85 := by kernel_rfl
  c127 := by kernel_rfl
  c143 := by kernel_rfl
  c145 := by kernel_rfl
  c167 := by kernel_rfl
  c168 := by kernel_rfl
  c171 := by kernel_rfl
  c173 := by kernel_rfl
  c175 := by kernel_rfl
  c210 := by kernel_rfl
  c212 := by kernel_rfl
  c213 := by kernel_rfl
  c232 := by kernel_rfl
  c233 := by kernel_rfl }
open Go.RowKit in
/-- A contract of the shelf at this dump. -/
theorem Tryz.strconv_ParseInt_10_at64_ok (s : ByteArray) (hmax : s.size ≤ 9223372036854775806) (v : Int) (h : Lib.parseIntB 64 s.data.toList = .ok v) (w : World) :
    Calls Tryz.prog 115 #[.string s, .int .i64 10, .int .i64 64] w fun e w' => e = .returned (.tuple #[.int .i64 v, .nilIface]) ∧ (w' = w ∨ ∃ t, w' = Lib.bytesWorld w 5 t) := Any.strconv_ParseInt_10_at64_ok Tryz.laysC174 s hmax v h w
open Go.RowKit in
/-- A contract of the shelf at this dump. -/
theorem Tryz.strconv_ParseInt_10_at64_syntax (s : ByteArray) (hlim : s.size ≤ 281474976710656) (h : Lib.parseIntB 64 s.data.toList = (Go.Lib.NumEnd.ofOption none)) (ev : Value) (w : World) (hv : w.cell? ⟨4, 0, none⟩ = some ev) (hev : ev = .nilIface ∨ ∃ te pe, ev = .iface te pe) :
    Calls Tryz.prog 115 #[.string s, .int .i64 10, .int .i64 64] w fun e w' => ∃ N, e = .returned (.tuple #[.int .i64 (0), .iface 161 (.pointer (some ⟨N, 0, none⟩))]) ∧ w.heap.size ≤ N ∧ w'.heap[N]? = some (.cells #[.string ⟨#[80, 97, 114, 115, 101, 73, 110, 116]⟩, .string s, ev] 176 (0, 0)) ∧ Below w.heap.size w w' := Any.strconv_ParseInt_10_at64_syntax Tryz.laysC174 s hlim h ev w hv hev
open Go.RowKit in
/-- A contract of the shelf at this dump. -/
theorem Tryz.strconv_ParseInt_10_at64_range (s : ByteArray) (hlim : s.size ≤ 281474976710656) (h : Lib.parseIntB 64 s.data.toList = .range) (ev : Value) (w : World) (hv : w.cell? ⟨5, 0, none⟩ = some ev) (hev : ev = .nilIface ∨ ∃ te pe, ev = .iface te pe) :
    Calls Tryz.prog 115 #[.string s, .int .i64 10, .int .i64 64] w fun e w' => ∃ N, e = .returned (.tuple #[.int .i64 (Lib.intSat 64 s.data.toList), .iface 161 (.pointer (some ⟨N, 0, none⟩))]) ∧ w.heap.size ≤ N ∧ w'.heap[N]? = some (.cells #[.string ⟨#[80, 97, 114, 115, 101, 73, 110, 116]⟩, .string s, ev] 176 (0, 0)) ∧ Below w.heap.size w w' := Any.strconv_ParseInt_10_at64_range Tryz.laysC174 s hlim h ev w hv hev
end Go.Proofs
end
section
/- Numbers read from texts: the program's. -/
namespace Go.Proofs.YtkoaangakmpggaaGreatDoor
open Go.RowKit Go.Proofs.YtkoaangakmpggaaGreatDoorW.PrintWords Go.Proofs.YtkoaangakmpggaaGreatDoorW.PrintMore
set_option linter.unusedVariables false
set_option linter.unusedSimpArgs false
set_option maxRecDepth 100000

/-- What a reading wants of the world: the library's variables. -/
structure Txt (w : World) : Prop where
  tab : Tab w
  mx : ∃ m, w.cell? ⟨0, 0, none⟩ = some (.int .i64 m)
  es : ∃ ev, w.cell? ⟨4, 0, none⟩ = some ev ∧ (ev = .nilIface ∨ ∃ te pe, ev = .iface te pe)
  er : ∃ ev, w.cell? ⟨5, 0, none⟩ = some ev ∧ (ev = .nilIface ∨ ∃ te pe, ev = .iface te pe)
theorem Txt.below {w w1 : World} (h : Txt w) (hb : Below w.heap.size w w1) : Txt w1 := by
  obtain ⟨h1, ⟨m, h2⟩, ⟨ev, h3, h4⟩, ev2, h5, h6⟩ := h
  exact ⟨h1.below hb, ⟨m, pw_cell_below hb h2⟩, ⟨ev, pw_cell_below hb h3, h4⟩, ev2, pw_cell_below hb h5, h6⟩
theorem decZ_c (n : Int) (h0 : -9223372036854775808 ≤ n) (h1 : n ≤ 9223372036854775807) (w : World) (ht : Tab w) : Calls Tryz.prog 116 #[.int .i64 n] w (Ret w (.string (bS (Go.Lib.itoa n)))) := by
  have HF := Aside0.mk (show Calls Tryz.prog 105 #[.int .i64 n, .int .i64 10] w (Ret w (.string (bS (Go.Lib.itoa n)))) from (Tryz.strconv_FormatInt_10 n h0 h1 w ht).mono fun e w' ⟨he, k, os, hw⟩ => ⟨he, by rw [hw]; exact bgrow w k os⟩)
  clear ht
  go_enter Tryz.func116, Tryz.ntmps116
  go_wp2_with (go_at_call 105; refine HF.out.mono ?_; rintro _ w1 ⟨rfl, hb1⟩)
  go_ret
  exact ⟨rfl, hb1⟩
theorem bS_list (l : Bs) : (bS l).toList = l := by rw [Go.Lib.toList_data, bS_toList]
theorem ret_rd {a b : Int} {c d : Bool} (h : a = b) (k : c = d) : Ending.returned (.tuple #[.int .i64 a, .bool c]) = .returned (.tuple #[.int .i64 b, .bool d]) := by rw [h, k]
set_option maxHeartbeats 2000000 in
theorem readDec_c (l : Bs) (hl : l.length ≤ 1048576) (w : World) (ht : Txt w) : Calls Tryz.prog 101 #[.string (bS l)] w (Ret w (.tuple #[.int .i64 (rdN l), .bool (rdOk l)])) := by
  have hsz : (bS l).size ≤ 1048576 := by rw [bS_size]; exact hl
  have HT := Aside0.mk ht
  obtain ⟨_, _, ⟨ev, he1, he2⟩, ev2, hr1, hr2⟩ := ht
  cases h : Go.Lib.parseIntB 64 l
  · rename_i v
    have hv : -9223372036854775808 ≤ v ∧ v ≤ 9223372036854775807 := by
      rw [Go.Lib.parseIntB_64] at h
      exact Go.Lib.atoiAll_bounds h
    have HR := Aside0.mk (show rdN l = v by unfold rdN; rw [h])
    have HK := Aside0.mk (show rdOk l = (Go.Lib.itoa v == l) by unfold rdOk; rw [h])
    have HP := Aside0.mk (show Calls Tryz.prog 115 #[.string (bS l), .int .i64 10, .int .i64 64] w (Ret w (.tuple #[.int .i64 v, .nilIface])) from (Tryz.strconv_ParseInt_10_at64_ok (bS l) (by omega) v (by rw [bS_toList]; exact h) w).mono fun e w' ⟨he, hw⟩ => ⟨he, by
      rcases hw with rfl | ⟨t, rfl⟩
      · exact Below.refl _ _
      · exact Go.Lib.bytesWorld_below _ _ _⟩)
    have HD := Aside0.mk (fun W h => decZ_c v hv.1 hv.2 W h)
    clear h hv he1 he2 hr1 hr2
    have HQ := Aside0.mk (show ((bS (Go.Lib.itoa v)).toList == (bS l).toList) = rdOk l by rw [HK.out, bS_list, bS_list])
    go_enter Tryz.func101, Tryz.ntmps101
    go_wp2_with fail
    refine HP.out.mono ?_; rintro _ w1 ⟨rfl, hb1⟩
    have HB1 := Aside0.mk hb1
    clear hb1
    go_wp2_with fail
    refine (HD.out _ (HT.out.tab.below HB1.out)).mono ?_; rintro _ w2 ⟨rfl, hb2⟩
    have HB2 := Aside0.mk (bstep HB1.out hb2)
    clear hb2
    go_wp2
    go_ret2
    exact ⟨ret_rd HR.out.symm HQ.out, HB2.out⟩
  · have HR := Aside0.mk (show rdN l = 0 by unfold rdN; rw [h])
    have HK := Aside0.mk (show rdOk l = false by unfold rdOk; rw [h])
    have HP := Aside0.mk (Tryz.strconv_ParseInt_10_at64_syntax (bS l) (by omega) (by rw [bS_toList]; exact h) ev w he1 he2)
    clear h he1 he2 hr1 hr2
    go_enter Tryz.func101, Tryz.ntmps101
    go_wp2_with fail
    refine HP.out.mono ?_; rintro _ w1 ⟨N, rfl, _, _, hb1⟩
    have HB1 := Aside0.mk hb1
    clear hb1
    go_wp2
    go_ret2
    exact ⟨ret_rd HR.out.symm HK.out.symm, HB1.out⟩
  · have HR := Aside0.mk (show rdN l = Go.Lib.intSat 64 l by unfold rdN; rw [h])
    have HK := Aside0.mk (show rdOk l = false by unfold rdOk; rw [h])
    have HP := Aside0.mk (Tryz.strconv_ParseInt_10_at64_range (bS l) (by omega) (by rw [bS_toList]; exact h) ev2 w hr1 hr2)
    rw [bS_toList] at HP
    clear h he1 he2 hr1 hr2
    go_enter Tryz.func101, Tryz.ntmps101
    go_wp2_with fail
    refine HP.out.mono ?_; rintro _ w1 ⟨N, rfl, _, _, hb1⟩
    have HB1 := Aside0.mk hb1
    clear hb1
    go_wp2
    go_ret2
    exact ⟨ret_rd HR.out.symm HK.out.symm, HB1.out⟩
theorem i16_low {n : Int} (h : 0 ≤ n ∧ n ≤ 32767) : IntKind.i16.wrap n = n := by
  simp only [IntKind.wrap, IntKind.bits, IntKind.signed, Bool.true_and, decide_eq_true_eq, ge_iff_le]
  split <;> omega
set_option maxHeartbeats 2000000 in
theorem short_c (l : Bs) (hl : l.length ≤ 1048576) (w : World) (ht : Txt w) : Calls Tryz.prog 72 #[.string (bS l)] w (Ret w (.int .i16 (shN l))) := by
  have HD := Aside0.mk (readDec_c l hl w ht)
  have HW := Aside0.mk (fun W => withinT64_c (rdN l) 0 32767 W)
  clear ht
  cases hk : rdOk l
  · have HS := Aside0.mk (show shN l = -1 by unfold shN; rw [hk]; rfl)
    rw [hk] at HD
    clear hk
    generalize rdN l = v at HD HW
    go_enter Tryz.func72, Tryz.ntmps72
    go_wp2_with (go_at_call 101; refine HD.out.mono ?_; rintro _ w1 ⟨rfl, hb1⟩)
    go_ret
    exact ⟨ret_int HS.out.symm, hb1⟩
  · cases hr : inR (rdN l) 0 32767
    · have HS := Aside0.mk (show shN l = -1 by unfold shN; rw [hk, hr]; rfl)
      rw [hk] at HD
      rw [hr] at HW
      clear hk hr
      generalize rdN l = v at HD HW
      go_enter Tryz.func72, Tryz.ntmps72
      go_wp2_with fail
      refine HD.out.mono ?_; rintro _ w1 ⟨rfl, hb1⟩
      have HB1 := Aside0.mk hb1
      clear hb1
      go_wp2_with fail
      refine (HW.out _).mono ?_; rintro _ w2 ⟨rfl, rfl⟩
      go_wp2
      go_ret
      exact ⟨ret_int HS.out.symm, HB1.out⟩
    · have HS := Aside0.mk (show shN l = rdN l by unfold shN; rw [hk, hr]; rfl)
      have hv := inR_iff.1 hr
      have hwv : IntKind.i16.wrap (rdN l) = rdN l := i16_low hv
      rw [hk] at HD
      rw [hr] at HW
      clear hk hr
      generalize rdN l = v at HD HW HS hv hwv
      go_enter Tryz.func72, Tryz.ntmps72
      go_wp2_with fail
      refine HD.out.mono ?_; rintro _ w1 ⟨rfl, hb1⟩
      have HB1 := Aside0.mk hb1
      clear hb1
      go_wp2_with fail
      refine (HW.out _).mono ?_; rintro _ w2 ⟨rfl, rfl⟩
      go_wp2
      go_ret
      exact ⟨ret_int HS.out.symm, HB1.out⟩
end Go.Proofs.YtkoaangakmpggaaGreatDoor
end
section
/- Numbers read from texts, texts parted: the reference's. -/
namespace Go.Proofs.YtkoaangakmpggaaGreatDoor
open Go.RowKit Go.Proofs.YtkoaangakmpggaaGreatDoorW.PrintWords Go.Proofs.YtkoaangakmpggaaGreatDoorW.PrintMore
set_option linter.unusedVariables false
set_option linter.unusedSimpArgs false
set_option maxRecDepth 100000

open Go.Lib (decFrom digitVal)
def nmV (l : Bs) : Int := ((numL l).getD 0 : Nat)
def nmK (l : Bs) : Bool := (numL l).isSome
theorem bS_at {l : Bs} {k : Nat} {x : UInt8} (h : l[k]? = some x) : ∀ hk : k < (bS l).size, (((bS l)[k]'hk).toNat : Int) = (x.toNat : Int) := by
  intro hk
  have hl : k < l.length := (List.getElem?_eq_some_iff.1 h).1
  have e := (List.getElem?_eq_some_iff.1 h).2
  have : (bS l)[k]'hk = l[k]'hl := by
    simp [bS, ByteArray.getElem_eq_getElem_data]
  rw [this, e]
theorem num_none {l : Bs} (h : numL l = none) : nmV l = 0 ∧ nmK l = false := by unfold nmV nmK; rw [h]; exact ⟨rfl, rfl⟩
theorem num_long {l : Bs} (h : 9 < l.length) : numL l = none := by unfold numL; rw [if_pos (.inr (.inl h))]
theorem num_zero {r : Bs} (h : r ≠ []) : numL (48 :: r) = none := by
  unfold numL
  rw [if_pos]
  have := List.length_pos_iff.2 h
  exact .inr (.inr ⟨rfl, by simp only [List.length_cons]; omega⟩)
theorem num_go {l : Bs} (h0 : l ≠ []) (h1 : ¬ 9 < l.length) (h2 : ¬ (l.head? = some 48 ∧ 1 < l.length)) : numL l = decFrom 0 l := by
  unfold numL
  rw [if_neg]
  rintro (h | h | h)
  · exact h0 h
  · exact h1 h
  · exact h2 h
theorem decFrom_bad {l : Bs} {k acc : Nat} {x : UInt8} (h : l[k]? = some x) (hx : x.toNat < 48 ∨ 57 < x.toNat) : decFrom acc l = none := by
  cases hd : decFrom acc l with
  | none => rfl
  | some n =>
    exfalso
    revert acc n k
    induction l with
    | nil => intro k acc h n hd; simp at h
    | cons y r ih =>
      intro k acc h n hd
      rw [decFrom] at hd
      cases hy : digitVal y with
      | none => rw [hy] at hd; cases hd
      | some d =>
        rw [hy] at hd
        cases k with
        | zero =>
          simp only [List.getElem?_cons_zero, Option.some.injEq] at h
          subst h
          have := Go.Lib.digitVal_eq hy
          omega
        | succ k => exact ih (by simpa using h) n hd
theorem decFrom_lt9 {l : Bs} {n : Nat} (h : decFrom 0 l = some n) (hl : l.length ≤ 9) : n < 1000000000 := by
  have h1 := Go.Lib.decFrom_lt l 0 n h
  have h2 : 10 ^ l.length ≤ 10 ^ 9 := Nat.pow_le_pow_right (by decide) hl
  omega
theorem nm_some {l : Bs} {n : Nat} (h : numL l = some n) : nmV l = n ∧ nmK l = true := by unfold nmV nmK; rw [h]; exact ⟨rfl, rfl⟩
end Go.Proofs.YtkoaangakmpggaaGreatDoor
end
section
/- Texts parted at a sign: the library's Split, and the reference's own. -/
namespace Go.Proofs.YtkoaangakmpggaaGreatDoor
open Go.RowKit Go.Proofs.YtkoaangakmpggaaGreatDoorW.PrintWords Go.Proofs.YtkoaangakmpggaaGreatDoorW.PrintMore
set_option linter.unusedVariables false
set_option linter.unusedSimpArgs false
set_option maxRecDepth 100000

theorem ext_bS (l : Bs) (a b : Nat) : (bS l).extract a b = bS ((l.take b).drop a) := by
  rw [← bS_of ((bS l).extract a b), Go.Lib.extract_data, bS_toList, List.drop_take]
theorem splitB_bS (c : UInt8) (l : Bs) : Go.Lib.splitB (bS [c]) 0 (Go.Lib.countB (bS l) (bS [c])) (bS l) = (splitL c l).map bS := by
  have h := splitB_one c (bS l)
  rw [bS_toList] at h
  rw [← h, List.map_map]
  exact (map_back (fun x _ => bS_of x)).symm
theorem countB_bS (c : UInt8) (l : Bs) : Go.Lib.countB (bS l) (bS [c]) + 1 = (splitL c l).length := by
  have h := Go.Lib.splitB_all (bS [c]) (by rw [bS_size]; exact Nat.le_refl _) 0 _ (bS l) rfl
  rw [splitB_bS, List.length_map] at h
  exact h.symm
theorem splitL_len (c : UInt8) : ∀ l : Bs, (splitL c l).length ≤ l.length + 1
  | [] => Nat.le_refl _
  | x :: l => by
    have ih := splitL_len c l
    rw [splitL]
    split
    · simp only [List.length_cons]; omega
    · split
      · simp
      · rename_i w r h
        rw [h] at ih
        simp only [List.length_cons] at ih ⊢
        omega
/-- A row of texts that a literal lays. -/
theorem lit_C (W : World) (xs : List ByteArray) (hn : xs.length ≤ 2097152) : Kd.string.C (W.alloc (.cells (xs.map Value.string).toArray 9)) (some ⟨W.heap.size, 0, none⟩) xs.length xs := by
  have h1 := World.ownsRow_lit (base := 0) (e := 9) (size := 1) W (xs.map Value.string).toArray xs.length (Nat.zero_le _) (by unfold maxLen; omega) (by simp)
  have h2 : Kd.string.R 9 (W.alloc (.cells (xs.map Value.string).toArray 9)) 0 (fun _ => True) (.slice (some ⟨W.heap.size, 0, none⟩) xs.length xs.length) xs :=
    Kd.R_of_own (enc := Value.string) (h1 := fun _ => rfl) (by simpa [Go.Proofs.YtkoaangakmpggaaGreatDoorW.PrintWords.encs] using h1) (fun _ _ => trivial)
  exact (Kd.R_reads' h2).2.2
/-- Pieces handed back. -/
def NewP (w : World) (ws : List Bs) (v : Value) (w' : World) : Prop := ∃ A c, v = .slice A ws.length c ∧ ws.length ≤ c ∧ Kd.string.C w' A ws.length (ws.map bS)
theorem split_c (c : UInt8) (l : Bs) (hl : l.length ≤ 1048576) (w : World) (ht : Txt w) : Calls Tryz.prog 70 #[.string (bS l), .string (bS [c])] w (RetQ w (NewP w (splitL c l))) := by
  obtain ⟨m, hm⟩ := ht.mx
  refine (Tryz.strings_Split (bS l) (bS [c]) m w (by rw [bS_size]; omega) hm (by rw [bS_size]; exact Nat.le_refl _)).mono ?_
  rintro e w' ⟨rfl, rfl⟩
  rw [countB_bS]
  refine ⟨_, rfl, balloc (Below.refl _ _) _, _, _, rfl, Nat.le_refl _, ?_⟩
  have h := lit_C w ((splitL c l).map bS) (by rw [List.length_map]; have := splitL_len c l; omega)
  rw [splitB_bS]
  rw [List.length_map] at h
  exact h
theorem at_str {ws : List Bs} {w : World} {A : Option Addr} {n : Nat} (h : Kd.string.C w A n (ws.map bS)) (i : Nat) (hi : i < n) (hn : n = ws.length) :
    ∃ ad x, A = some ad ∧ Aside0 (ws[i]? = some x) ∧ w.cell? (ad.add i) = some (.string (bS x)) := by
  obtain ⟨ad, e, hx⟩ := Kd.at_string h (i : Int) (by omega) (by omega)
  have hl : i < ws.length := by omega
  refine ⟨ad, ws[i], e, ⟨List.getElem?_eq_getElem hl⟩, ?_⟩
  rw [Int.toNat_natCast] at hx
  rw [hx]
  unfold Go.Proofs.YtkoaangakmpggaaGreatDoorW.PrintWords.rdOf
  rw [Int.toNat_natCast, List.getD_eq_getElem?_getD, List.getElem?_map, List.getElem?_eq_getElem hl]
  rfl
/-- How far the reference has parted a text. -/
structure SpI (c : UInt8) (l : Bs) (k b : Nat) (P : List Bs) (cur : Bs) : Prop where
  e : splitL c l = P ++ splitL c (cur ++ l.drop k)
  no : c ∉ cur
  cur : cur = (l.take k).drop b
  le : b ≤ k
  n : P.length ≤ k
theorem SpI.hit {c : UInt8} {l : Bs} {k b : Nat} {P : List Bs} {cur : Bs} (h : SpI c l k b P cur) (hx : l[k]? = some c) : SpI c l (k + 1) (k + 1) (P ++ [cur]) [] := by
  have hk := (List.getElem?_eq_some_iff.1 hx).1
  have he := (List.getElem?_eq_some_iff.1 hx).2
  refine ⟨?_, List.not_mem_nil, ?_, Nat.le_refl _, by have := h.n; rw [List.length_append, List.length_singleton]; omega⟩
  · rw [h.e, List.drop_eq_getElem_cons hk, he, splitL_cons _ h.no, List.append_assoc]
    rfl
  · rw [List.drop_of_length_le (by rw [List.length_take]; omega)]
theorem SpI.miss {c x : UInt8} {l : Bs} {k b : Nat} {P : List Bs} {cur : Bs} (h : SpI c l k b P cur) (hx : l[k]? = some x) (hc : x ≠ c) : SpI c l (k + 1) b P (cur ++ [x]) := by
  have hk := (List.getElem?_eq_some_iff.1 hx).1
  have he := (List.getElem?_eq_some_iff.1 hx).2
  refine ⟨?_, ?_, ?_, by have := h.le; omega, by have := h.n; omega⟩
  · rw [h.e, List.drop_eq_getElem_cons hk, he, List.append_assoc]
    rfl
  · intro hm
    rcases List.mem_append.1 hm with hm | hm
    · exact h.no hm
    · exact hc (List.mem_singleton.1 hm).symm
  · rw [take_snoc hx, List.drop_append_of_le_length (by rw [List.length_take]; have := h.le; omega), ← h.cur]
theorem SpI.done {c : UInt8} {l : Bs} {b : Nat} {P : List Bs} {cur : Bs} (h : SpI c l l.length b P cur) : splitL c l = P ++ [cur] := by
  rw [h.e, List.drop_length, List.append_nil, splitL_none h.no]
end Go.Proofs.YtkoaangakmpggaaGreatDoor
end
section
/- Books' texts in plain Lean: what a book's text is, and that it is found again. -/
namespace Go.Proofs.YtkoaangakmpggaaGreatDoor
open Go.RowKit Go.Proofs.YtkoaangakmpggaaGreatDoorW.PrintWords Go.Proofs.YtkoaangakmpggaaGreatDoorW.PrintMore
set_option linter.unusedVariables false
set_option linter.unusedSimpArgs false
set_option maxRecDepth 100000

def mkB (b : Bk) : Bs := [UInt8.ofNat b.m0.toNat, UInt8.ofNat b.m1.toNat, UInt8.ofNat b.m2.toNat]
theorem mkB_str (b : Bk) : strOfNums [b.m0, b.m1, b.m2] = bS (mkB b) := rfl
def bkWs (b : Bk) : List Bs := [dg b.c, mkB b, dg b.v, dg b.wd ++ 120 :: dg b.h, dg b.wt]
/-- The text of a book. -/
def bkT (b : Bk) : Bs := joinL 32 (bkWs b)
theorem bkT_join (b : Bk) : Go.Lib.join [dg b.c, mkB b, dg b.v, dg b.wd ++ 120 :: dg b.h, dg b.wt] [32] = bkT b := by
  simp [Go.Lib.join_cons, Go.Lib.joinTail, bkT, bkWs, joinL]
theorem bkT_eq (b : Bk) : bkT b = dg b.c ++ [32] ++ mkB b ++ [32] ++ dg b.v ++ [32] ++ dg b.wd ++ [120] ++ dg b.h ++ [32] ++ dg b.wt := by
  simp [bkT, bkWs, joinL]
structure VB1 (b : Bk) : Prop where
  c : 0 ≤ b.c ∧ b.c ≤ 999
  m0 : 97 ≤ b.m0 ∧ b.m0 ≤ 122
  m1 : 97 ≤ b.m1 ∧ b.m1 ≤ 122
  m2 : 97 ≤ b.m2 ∧ b.m2 ≤ 122
  v : 1 ≤ b.v ∧ b.v ≤ 99
  wd : 1 ≤ b.wd ∧ b.wd ≤ 100
  h : 50 ≤ b.h ∧ b.h ≤ 400
  wt : 1 ≤ b.wt ∧ b.wt ≤ 9999
theorem vB1 {b : Bk} (h : vBook b = true) : VB1 b := by
  simp only [vBook, vMark, inR, Bool.and_eq_true, decide_eq_true_eq] at h
  obtain ⟨h1, ⟨h2, h3, h4⟩, h5, h6, h7, h8⟩ := h
  exact ⟨h1, h2, h3, h4, h5, h6, h7, h8⟩
theorem mkB_small {b : Bk} (h : VB1 b) {x : UInt8} (hx : x ∈ mkB b) : 97 ≤ x.toNat ∧ x.toNat ≤ 122 := by
  obtain ⟨_, h0, h1, h2, _⟩ := h
  unfold mkB at hx
  simp only [List.mem_cons, List.not_mem_nil, or_false] at hx
  rcases hx with rfl | rfl | rfl <;> (rw [UInt8.toNat_ofNat']; omega)
theorem bkWs_no {b : Bk} (h : VB1 b) : ∀ w, w ∈ bkWs b → (32 : UInt8) ∉ w := by
  intro w hw
  unfold bkWs at hw
  simp only [List.mem_cons, List.not_mem_nil, or_false] at hw
  rcases hw with rfl | rfl | rfl | rfl | rfl
  · exact not_dig (by decide)
  · intro hm
    have := mkB_small h hm
    exact absurd this.1 (by decide)
  · exact not_dig (by decide)
  · intro hm
    rcases List.mem_append.1 hm with hm | hm
    · exact not_dig (by decide) hm
    · rcases List.mem_cons.1 hm with hm | hm
      · exact absurd hm (by decide)
      · exact not_dig (by decide) hm
  · exact not_dig (by decide)
theorem bkT_split {b : Bk} (h : VB1 b) : splitL 32 (bkT b) = bkWs b := splitL_join (List.cons_ne_nil _ _) (bkWs_no h)
theorem sizes_split (b : Bk) : splitL 120 (dg b.wd ++ 120 :: dg b.h) = [dg b.wd, dg b.h] := by
  rw [splitL_cons _ (not_dig (by decide)), splitL_none (not_dig (by decide))]
theorem u8_inj {n m : Int} (h0 : 97 ≤ n ∧ n ≤ 122) (h1 : 97 ≤ m ∧ m ≤ 122) (h : UInt8.ofNat n.toNat = UInt8.ofNat m.toNat) : n = m := by
  have := congrArg UInt8.toNat h
  rw [UInt8.toNat_ofNat', UInt8.toNat_ofNat'] at this
  omega
/-- A text is that of a book. -/
def RdB (l : Bs) (b : Bk) : Prop := vBook b = true ∧ bkT b = l
theorem RdB.unique {l : Bs} {b b' : Bk} (h : RdB l b) (h' : RdB l b') : b = b' := by
  have v := vB1 h.1
  have v' := vB1 h'.1
  have e : bkWs b = bkWs b' := by rw [← bkT_split v, ← bkT_split v', h.2, h'.2]
  unfold bkWs mkB at e
  simp only [List.cons.injEq, and_true] at e
  obtain ⟨e1, ⟨e2, e3, e4⟩, e5, e6, e7⟩ := e
  have e8 := congrArg (splitL 120) e6
  rw [sizes_split, sizes_split] at e8
  simp only [List.cons.injEq, and_true] at e8
  cases b; cases b'
  simp only [Bk.mk.injEq]
  obtain ⟨a1, a2, a3, a4, a5, a6, a7, a8⟩ := v
  obtain ⟨c1, c2, c3, c4, c5, c6, c7, c8⟩ := v'
  exact ⟨dg_inj (by simpa using a1.1) (by simpa using c1.1) e1, u8_inj a2 c2 e2, u8_inj a3 c3 e3, u8_inj a4 c4 e4, dg_inj (by simp at a5; omega) (by simp at c5; omega) e5, dg_inj (by simp at a6; omega) (by simp at c6; omega) e8.1, dg_inj (by simp at a7; omega) (by simp at c7; omega) e8.2, dg_inj (by simp at a8; omega) (by simp at c8; omega) e7⟩
theorem bkT_len {b : Bk} (h : VB1 b) : (bkT b).length ≤ 30 := by
  have h1 := dg_len (n := b.c) 2 h.c.1 (by have := h.c.2; omega)
  have h2 := dg_len (n := b.v) 1 (by have := h.v; omega) (by have := h.v; omega)
  have h3 := dg_len (n := b.wd) 2 (by have := h.wd; omega) (by have := h.wd; omega)
  have h4 := dg_len (n := b.h) 2 (by have := h.h; omega) (by have := h.h; omega)
  have h5 := dg_len (n := b.wt) 3 (by have := h.wt; omega) (by have := h.wt; omega)
  rw [bkT_eq]
  simp only [List.length_append, List.length_cons, List.length_nil, mkB]
  omega
end Go.Proofs.YtkoaangakmpggaaGreatDoor
end
section
/- A book's text: the program's and the reference's. -/
namespace Go.Proofs.YtkoaangakmpggaaGreatDoor
open Go.RowKit Go.Proofs.YtkoaangakmpggaaGreatDoorW.PrintWords Go.Proofs.YtkoaangakmpggaaGreatDoorW.PrintMore
set_option linter.unusedVariables false
set_option linter.unusedSimpArgs false
set_option maxRecDepth 100000

theorem mk_conv {W : World} {g : Nat} {b : Bk} (h : BkAt W ⟨g, 0, none⟩ b) (c : Nat) : (convert 22 9 (.slice (some ⟨g, 1, none⟩) 3 c)).run Tryz.prog W = .ok (.string (bS (mkB b))) W :=
  Kd.C_string (xs := [b.m0, b.m1, b.m2]) Tryz.underlying22 Tryz.underlying5 Tryz.underlying9 (marks_C W g 1 b.m0 b.m1 b.m2 h.c1 h.c2 h.c3)
theorem mk_convA {W : World} {a : Addr} {b : Bk} (h : BkAt W a b) (c : Nat) : (convert 22 9 (.slice (some ⟨a.block, a.off + 1, none⟩) 3 c)).run Tryz.prog W = .ok (.string (bS (mkB b))) W :=
  Kd.C_string (xs := [b.m0, b.m1, b.m2]) Tryz.underlying22 Tryz.underlying5 Tryz.underlying9 (marks_C W a.block (a.off + 1) b.m0 b.m1 b.m2 h.c1 h.c2 h.c3)
theorem dgS_le {n : Int} (h0 : 0 ≤ n) (h1 : n ≤ 99999) : (bS (dg n)).size ≤ 5 := by
  rw [bS_size]
  exact dg_len 4 h0 (by omega)
theorem mkS_size (b : Bk) : (bS (mkB b)).size = 3 := by rw [bS_size]; rfl
set_option maxHeartbeats 4000000 in
theorem bookText_c (b : Bk) (hv : VB1 b) (w : World) (ht : Tab w) : Calls Tryz.prog 42 #[b.val] w (Ret w (.string (bS (bkT b)))) := by
  have hbx := BkAt.box w b 44
  have hb0 : Below w.heap.size w (w.alloc (.cells #[.int .i16 b.c, .int .u8 b.m0, .int .u8 b.m1, .int .u8 b.m2, .int .i16 b.v, .int .i16 b.wd, .int .i16 b.h, .int .i16 b.wt] 44)) := balloc (Below.refl _ _) _
  have HT := Aside0.mk (ht.below hb0)
  have HV := Aside0.mk hv
  simp only [Bk.val]
  clear ht hv
  go_enter Tryz.func42, Tryz.ntmps42
  go_wp2_with fail
  generalize World.alloc w _ = W1 at hbx hb0 HT ⊢
  generalize w.heap.size = g at hbx ⊢
  have HB0 := Aside0.mk hb0
  have HBX := Aside0.mk hbx
  clear hb0
  obtain ⟨c0, c1, c2, c3, c4, c5, c6, c7⟩ := hbx
  have o0 : ∀ p : Over W1, p.W.cell? ⟨g, 0, none⟩ = some (.int .i16 b.c) := Over.cell c0
  have o4 : ∀ p : Over W1, p.W.cell? ⟨g, 4, none⟩ = some (.int .i16 b.v) := Over.cell c4
  have o5 : ∀ p : Over W1, p.W.cell? ⟨g, 5, none⟩ = some (.int .i16 b.wd) := Over.cell c5
  have o6 : ∀ p : Over W1, p.W.cell? ⟨g, 6, none⟩ = some (.int .i16 b.h) := Over.cell c6
  have o7 : ∀ p : Over W1, p.W.cell? ⟨g, 7, none⟩ = some (.int .i16 b.wt) := Over.cell c7
  have ocv : ∀ (p : Over W1) (c : Nat), (convert 22 9 (.slice (some ⟨g, 1, none⟩) 3 c)).run Tryz.prog p.W = .ok (.string (bS (mkB b))) p.W := fun p c => mk_conv (HBX.out.below p.h) c
  clear c0 c1 c2 c3 c4 c5 c6 c7
  have HD := Aside0.mk (fun (n : Int) (h : 0 ≤ n ∧ n ≤ 32767) (p : Over W1) => Calls.over_of (dec16_c n h.1 h.2 p.W (HT.out.below p.h)))
  have x1 := dgS_le (n := b.wd) (by have := HV.out.wd; omega) (by have := HV.out.wd; omega)
  have x2 := dgS_le (n := b.h) (by have := HV.out.h; omega) (by have := HV.out.h; omega)
  have y1 : ¬ (9223372036854775807 < (bS (dg b.wd)).size + 1) := by omega
  have y2 : ¬ (9223372036854775807 < (bS (dg b.wd)).size + 1 + (bS (dg b.h)).size) := by omega
  refine region_over_tail 20 (by kernel_rfl) (by kernel_rfl) ?_
  simp only [List.take_succ_cons, List.take_zero, List.drop_succ_cons, List.drop_zero]
  repeat (go_big_quiet_step (first | (go_at_call 76; exact HD.out _ (by first | exact ⟨HV.out.c.1, by have := HV.out.c; omega⟩ | exact ⟨by have := HV.out.v; omega, by have := HV.out.v; omega⟩ | exact ⟨by have := HV.out.wd; omega, by have := HV.out.wd; omega⟩ | exact ⟨by have := HV.out.h; omega, by have := HV.out.h; omega⟩ | exact ⟨by have := HV.out.wt; omega, by have := HV.out.wt; omega⟩) _)))
  refine wpQuiet_nil ?_
  intro wq hw'
  have hq_wq := over_out hw'
  clear hw'
  have hx : bS (dg b.wd) ++ { data := #[120] } ++ bS (dg b.h) = bS (dg b.wd ++ 120 :: dg b.h) := by
    rw [show ({ data := #[120] } : ByteArray) = bS [120] from rfl, bS_append, bS_append, List.append_assoc]
    rfl
  have HJ := Aside0.mk (Tryz.strings_Join wq.heap.size 0 5 [bS (dg b.c), bS (mkB b), bS (dg b.v), bS (dg b.wd ++ 120 :: dg b.h), bS (dg b.wt)] ⟨#[32]⟩ (wq.alloc (.cells #[.string (bS (dg b.c)), .string (bS (mkB b)), .string (bS (dg b.v)), .string (bS (dg b.wd ++ 120 :: dg b.h)), .string (bS (dg b.wt))] 9))
    (fun j x hj => by match j, hj with
      | 0, hj => cases hj; exact (blk_cell (blk_new wq _) 0).trans rfl
      | 1, hj => cases hj; exact (blk_cell (blk_new wq _) 1).trans rfl
      | 2, hj => cases hj; exact (blk_cell (blk_new wq _) 2).trans rfl
      | 3, hj => cases hj; exact (blk_cell (blk_new wq _) 3).trans rfl
      | 4, hj => cases hj; exact (blk_cell (blk_new wq _) 4).trans rfl) (by simp) (by simp) (by simp)
    (by
      simp only [List.map_cons, List.map_nil, bS_toList]
      rw [bkT_join]
      have := bkT_len HV.out
      omega))
  have HB1 := Aside0.mk (bstep HB0.out hq_wq)
  clear o0 o4 o5 o6 o7 ocv x1 x2 y1 y2 hq_wq
  simp only [hx]
  go_wp2_with fail
  refine HJ.out.mono ?_; rintro _ w2 ⟨rfl, hb2⟩
  have HB2 := Aside0.mk (bstep (balloc HB1.out _) hb2)
  clear hb2
  go_wp2
  go_ret
  refine ⟨ret_str ?_, HB2.out⟩
  simp only [List.map_cons, List.map_nil, bS_toList]
  rw [bkT_join]
  rfl
theorem str_assoc (a b c : Bs) : bS a ++ bS b ++ bS c = bS (a ++ b ++ c) := by rw [bS_append, bS_append]
end Go.Proofs.YtkoaangakmpggaaGreatDoor
end
section
/- Books read from their texts, in plain Lean. -/
namespace Go.Proofs.YtkoaangakmpggaaGreatDoor
open Go.RowKit Go.Proofs.YtkoaangakmpggaaGreatDoorW.PrintWords Go.Proofs.YtkoaangakmpggaaGreatDoorW.PrintMore
set_option linter.unusedVariables false
set_option linter.unusedSimpArgs false
set_option maxRecDepth 100000

/-- The book that is made of five words. -/
def bkOf (w0 w2 w3 w4 : Bs) (x y z : UInt8) : Bk := ⟨shN w0, x.toNat, y.toNat, z.toNat, shN w2, shN (Go.Lib.cut w3 [120]).1, shN (Go.Lib.cut w3 [120]).2.1, shN w4⟩
theorem u8_back {n : Int} (h : 97 ≤ n ∧ n ≤ 122) : ((UInt8.ofNat n.toNat).toNat : Int) = n := by rw [UInt8.toNat_ofNat']; omega
theorem bkOf_back {b : Bk} (h : VB1 b) : bkOf (dg b.c) (dg b.v) (dg b.wd ++ 120 :: dg b.h) (dg b.wt) (UInt8.ofNat b.m0.toNat) (UInt8.ofNat b.m1.toNat) (UInt8.ofNat b.m2.toNat) = b := by
  obtain ⟨h1, h2, h3, h4, h5, h6, h7, h8⟩ := h
  unfold bkOf
  rw [cut_one (not_dig (by decide))]
  simp only
  rw [shN_dg h1.1 (by omega), u8_back h2, u8_back h3, u8_back h4, shN_dg (by omega) (by omega), shN_dg (by omega) (by omega), shN_dg (by omega) (by omega), shN_dg (by omega) (by omega)]
/-- How a book is read: the book of the text, or none. -/
def BkR (l : Bs) (b : Bk) (n : Int) (err : Int) : Prop := (n = 0 ∧ RdB l b) ∨ (n = err ∧ b = ⟨0, 0, 0, 0, 0, 0, 0, 0⟩ ∧ ∀ b', ¬ RdB l b')
theorem BkR.unique {l : Bs} {b b' : Bk} {n n' err : Int} (h : BkR l b n err) (h' : BkR l b' n' err) : b = b' ∧ n = n' := by
  rcases h with ⟨h1, h2⟩ | ⟨h1, h2, h3⟩ <;> rcases h' with ⟨k1, k2⟩ | ⟨k1, k2, k3⟩
  · exact ⟨h2.unique k2, by rw [h1, k1]⟩
  · exact absurd h2 (k3 _)
  · exact absurd k2 (h3 _)
  · exact ⟨by rw [h2, k2], by rw [h1, k1]⟩
theorem rd_words {l : Bs} {b : Bk} (h : RdB l b) : splitL 32 l = bkWs b := by rw [← h.2]; exact bkT_split (vB1 h.1)
theorem rd_none {l : Bs} (h : (splitL 32 l).length ≠ 5) (b : Bk) : ¬ RdB l b := fun hr => h (by rw [rd_words hr]; rfl)
theorem rd_none3 {l w0 w1 w2 w3 w4 : Bs} (h : splitL 32 l = [w0, w1, w2, w3, w4]) (h3 : w1.length ≠ 3) (b : Bk) : ¬ RdB l b := fun hr => by
  have := rd_words hr
  rw [h] at this
  unfold bkWs at this
  simp only [List.cons.injEq] at this
  exact h3 (by rw [this.2.1]; rfl)
theorem rd_five {l w0 w2 w3 w4 : Bs} {x y z : UInt8} (h : splitL 32 l = [w0, [x, y, z], w2, w3, w4]) {b : Bk} (hr : RdB l b) : bkOf w0 w2 w3 w4 x y z = b := by
  have := rd_words hr
  rw [h] at this
  unfold bkWs mkB at this
  simp only [List.cons.injEq, and_true] at this
  obtain ⟨rfl, ⟨rfl, rfl, rfl⟩, rfl, rfl, rfl⟩ := this
  exact bkOf_back (vB1 hr.1)
/-- The program's reading. -/
theorem rd_impl {l w0 w2 w3 w4 : Bs} {x y z : UInt8} (h : splitL 32 l = [w0, [x, y, z], w2, w3, w4]) (err : Int) :
    BkR l (if (vBook (bkOf w0 w2 w3 w4 x y z) && (bkT (bkOf w0 w2 w3 w4 x y z) == l)) = true then bkOf w0 w2 w3 w4 x y z else ⟨0, 0, 0, 0, 0, 0, 0, 0⟩) (if (vBook (bkOf w0 w2 w3 w4 x y z) && (bkT (bkOf w0 w2 w3 w4 x y z) == l)) = true then 0 else err) err := by
  split
  · rename_i hc
    rw [Bool.and_eq_true, beq_iff_eq] at hc
    exact .inl ⟨rfl, hc⟩
  · rename_i hc
    refine .inr ⟨rfl, rfl, fun b hb => hc ?_⟩
    rw [rd_five h hb, Bool.and_eq_true, beq_iff_eq]
    exact hb
/-- The reference's reading: what five numbers give. -/
theorem rd_spec {l w0 w2 w3 w4 p q : Bs} {x y z : UInt8} {a0 a1 a2 a3 a4 : Nat} (h : splitL 32 l = [w0, [x, y, z], w2, w3, w4]) (h3 : splitL 120 w3 = [p, q])
    (n0 : numL w0 = some a0) (n1 : numL w2 = some a1) (n2 : numL p = some a2) (n3 : numL q = some a3) (n4 : numL w4 = some a4) :
    bkT ⟨a0, x.toNat, y.toNat, z.toNat, a1, a2, a3, a4⟩ = l := by
  have e := joinL_split 32 l
  rw [h] at e
  have e3 := joinL_split 120 w3
  rw [h3] at e3
  rw [← e]
  unfold bkT bkWs mkB
  simp only [numL_back n0, numL_back n1, numL_back n2, numL_back n3, numL_back n4]
  have hm : [UInt8.ofNat ((x.toNat : Int)).toNat, UInt8.ofNat ((y.toNat : Int)).toNat, UInt8.ofNat ((z.toNat : Int)).toNat] = [x, y, z] := by simp
  rw [hm, ← e3]
  rfl
/-- A book's words are read by the reference too. -/
theorem rd_spec_words {l w0 w2 w3 w4 : Bs} {x y z : UInt8} (h : splitL 32 l = [w0, [x, y, z], w2, w3, w4]) {b : Bk} (hr : RdB l b) :
    splitL 120 w3 = [dg b.wd, dg b.h] ∧ w0 = dg b.c ∧ w2 = dg b.v ∧ w4 = dg b.wt ∧ x = UInt8.ofNat b.m0.toNat ∧ y = UInt8.ofNat b.m1.toNat ∧ z = UInt8.ofNat b.m2.toNat := by
  have := rd_words hr
  rw [h] at this
  unfold bkWs mkB at this
  simp only [List.cons.injEq, and_true] at this
  obtain ⟨rfl, ⟨rfl, rfl, rfl⟩, rfl, rfl, rfl⟩ := this
  exact ⟨sizes_split b, rfl, rfl, rfl, rfl, rfl, rfl⟩
end Go.Proofs.YtkoaangakmpggaaGreatDoor
end
section
/- The laws comparisons: eqByteA3, eqBook, eqBookS. -/
namespace Go.Proofs.YtkoaangakmpggaaGreatDoor
open Go.RowKit Go.Proofs.YtkoaangakmpggaaGreatDoorW.PrintWords Go.Proofs.YtkoaangakmpggaaGreatDoorW.PrintMore
set_option linter.unusedVariables false
set_option linter.unusedSimpArgs false
set_option maxRecDepth 100000

end Go.Proofs.YtkoaangakmpggaaGreatDoor
end
section
/- ReadBook: the program's and the reference's. -/
namespace Go.Proofs.YtkoaangakmpggaaGreatDoor
open Go.RowKit Go.Proofs.YtkoaangakmpggaaGreatDoorW.PrintWords Go.Proofs.YtkoaangakmpggaaGreatDoorW.PrintMore
set_option linter.unusedVariables false
set_option linter.unusedSimpArgs false
set_option maxRecDepth 100000

abbrev Bk0 : Bk := ⟨0, 0, 0, 0, 0, 0, 0, 0⟩
open Classical in
/-- The book of a text, none if there is none. -/
noncomputable def bkV (l : Bs) : Bk := if h : ∃ b, RdB l b then Classical.choose h else Bk0
open Classical in
noncomputable def bkK (l : Bs) : Bool := if ∃ b, RdB l b then true else false
theorem bk_ok {l : Bs} {b : Bk} (h : RdB l b) : bkV l = b ∧ bkK l = true := by
  have hx : ∃ b, RdB l b := ⟨b, h⟩
  unfold bkV bkK
  rw [dif_pos hx, if_pos hx]
  exact ⟨(Classical.choose_spec hx).unique h, rfl⟩
theorem bk_no {l : Bs} (h : ∀ b, ¬ RdB l b) : bkV l = Bk0 ∧ bkK l = false := by
  have hx : ¬ ∃ b, RdB l b := fun ⟨b, hb⟩ => h b hb
  unfold bkV bkK
  rw [dif_neg hx, if_neg hx]
  exact ⟨rfl, rfl⟩
theorem splitL_mem (c : UInt8) : ∀ (l : Bs) (w : Bs), w ∈ splitL c l → w.length ≤ l.length
  | [], w, h => by rw [splitL, List.mem_singleton] at h; rw [h]; exact Nat.le_refl _
  | x :: l, w, h => by
    have ih := splitL_mem c l
    rw [splitL] at h
    split at h
    · rcases List.mem_cons.1 h with rfl | h
      · exact Nat.zero_le _
      · exact Nat.le_succ_of_le (ih w h)
    · split at h
      · rw [List.mem_singleton] at h
        rw [h]
        simp
      · rename_i v r hs
        rcases List.mem_cons.1 h with rfl | h
        · have := ih v (by rw [hs]; simp)
          simp only [List.length_cons]
          omega
        · exact Nat.le_succ_of_le (ih w (by rw [hs]; simp [h]))
theorem ret_bk {a b : Bk} {c d : Bool} (h : a = b) (k : c = d) : Ending.returned (.tuple #[a.val, .bool c]) = .returned (.tuple #[b.val, .bool d]) := by rw [h, k]
theorem five {α : Type} {l : List α} (h : l.length = 5) : ∃ a0 a1 a2 a3 a4, l = [a0, a1, a2, a3, a4] := by
  match l, h with
  | [a0, a1, a2, a3, a4], _ => exact ⟨a0, a1, a2, a3, a4, rfl⟩
theorem three {α : Type} {l : List α} (h : l.length = 3) : ∃ a0 a1 a2, l = [a0, a1, a2] := by
  match l, h with
  | [a0, a1, a2], _ => exact ⟨a0, a1, a2, rfl⟩
theorem at5 {a0 a1 a2 a3 a4 : Bs} {w : World} {A : Option Addr} (h : Kd.string.C w A 5 ([a0, a1, a2, a3, a4].map bS)) :
    ∃ ad, A = some ad ∧ w.cell? ad = some (.string (bS a0)) ∧ w.cell? ⟨ad.block, ad.off + 1, none⟩ = some (.string (bS a1)) ∧ w.cell? ⟨ad.block, ad.off + 2, none⟩ = some (.string (bS a2)) ∧ w.cell? ⟨ad.block, ad.off + 3, none⟩ = some (.string (bS a3)) ∧ w.cell? ⟨ad.block, ad.off + 4, none⟩ = some (.string (bS a4)) := by
  obtain ⟨ad, x0, rfl, h0, e0⟩ := at_str (ws := [a0, a1, a2, a3, a4]) h 0 (by decide) rfl
  obtain ⟨d1, x1, k1, h1, e1⟩ := at_str (ws := [a0, a1, a2, a3, a4]) h 1 (by decide) rfl
  obtain ⟨d2, x2, k2, h2, e2⟩ := at_str (ws := [a0, a1, a2, a3, a4]) h 2 (by decide) rfl
  obtain ⟨d3, x3, k3, h3, e3⟩ := at_str (ws := [a0, a1, a2, a3, a4]) h 3 (by decide) rfl
  obtain ⟨d4, x4, k4, h4, e4⟩ := at_str (ws := [a0, a1, a2, a3, a4]) h 4 (by decide) rfl
  cases k1; cases k2; cases k3; cases k4
  have h0 := h0.out; have h1 := h1.out; have h2 := h2.out; have h3 := h3.out; have h4 := h4.out
  cases h0; cases h1; cases h2; cases h3; cases h4
  exact ⟨ad, rfl, e0, e1, e2, e3, e4⟩
/-- What the program's reading hands back. -/
def rbV (l : Bs) : Bk := match splitL 32 l with
  | [a0, [x, y, z], a2, a3, a4] => bkOf a0 a2 a3 a4 x y z
  | _ => Bk0
theorem rb_five {l w0 w2 w3 w4 : Bs} {x y z : UInt8} (h : splitL 32 l = [w0, [x, y, z], w2, w3, w4]) : rbV l = bkOf w0 w2 w3 w4 x y z := by unfold rbV; rw [h]
theorem rb_n {l : Bs} (h : (splitL 32 l).length ≠ 5) : rbV l = Bk0 := by
  unfold rbV
  split
  · rename_i e
    rw [e] at h
    exact absurd rfl h
  · rfl
theorem rb_n3 {l w0 w1 w2 w3 w4 : Bs} (h : splitL 32 l = [w0, w1, w2, w3, w4]) (h3 : w1.length ≠ 3) : rbV l = Bk0 := by
  unfold rbV
  rw [h]
  split
  · rename_i e
    cases e
    exact absurd rfl h3
  · rfl
theorem rd_case {l w0 w2 w3 w4 : Bs} {x y z : UInt8} (h : splitL 32 l = [w0, [x, y, z], w2, w3, w4]) :
    if (vBook (bkOf w0 w2 w3 w4 x y z) && (bkT (bkOf w0 w2 w3 w4 x y z) == l)) = true then bkV l = bkOf w0 w2 w3 w4 x y z ∧ bkK l = true else bkV l = Bk0 ∧ bkK l = false := by
  have hr := rd_impl h 1
  split
  · rename_i hc
    rw [if_pos hc, if_pos hc] at hr
    rcases hr with ⟨_, hb⟩ | ⟨h0, _⟩
    · exact bk_ok hb
    · cases h0
  · rename_i hc
    rw [if_neg hc, if_neg hc] at hr
    rcases hr with ⟨h0, _⟩ | ⟨_, _, hb⟩
    · cases h0
    · exact bk_no hb
theorem rb_ok {l : Bs} (h : bkK l = true) : rbV l = bkV l := by
  by_cases hn : (splitL 32 l).length = 5
  · obtain ⟨a0, a1, a2, a3, a4, hws⟩ := five hn
    by_cases h3 : a1.length = 3
    · obtain ⟨x, y, z, rfl⟩ := three h3
      have := rd_case hws
      split at this
      · rw [this.1, rb_five hws]
      · rw [this.2] at h
        cases h
    · rw [(bk_no (rd_none3 hws h3)).2] at h
      cases h
  · rw [(bk_no (rd_none hn)).2] at h
    cases h
theorem rd_k {l w0 w2 w3 w4 : Bs} {x y z : UInt8} (h : splitL 32 l = [w0, [x, y, z], w2, w3, w4]) : bkK l = (vBook (bkOf w0 w2 w3 w4 x y z) && (bkT (bkOf w0 w2 w3 w4 x y z) == l)) := by
  have := rd_case h
  split at this
  · rename_i hc
    rw [hc, this.2]
  · rename_i hc
    rw [this.2]
    exact ((Bool.not_eq_true _).mp hc).symm
theorem cut_len1 (c : UInt8) (l : Bs) : (Go.Lib.cut l [c]).1.length ≤ l.length ∧ (Go.Lib.cut l [c]).2.1.length ≤ l.length := by
  unfold Go.Lib.cut
  split <;> simp <;> omega
/-- A book stored over a book. -/
def put8 (W : World) (g : Nat) (b : Bk) : World := (((((((W.setCell ⟨g, 0, none⟩ (.int .i16 b.c)).setCell ⟨g, 1, none⟩ (.int .u8 b.m0)).setCell ⟨g, 2, none⟩ (.int .u8 b.m1)).setCell ⟨g, 3, none⟩ (.int .u8 b.m2)).setCell ⟨g, 4, none⟩ (.int .i16 b.v)).setCell ⟨g, 5, none⟩ (.int .i16 b.wd)).setCell ⟨g, 6, none⟩ (.int .i16 b.h)).setCell ⟨g, 7, none⟩ (.int .i16 b.wt)
abbrev bkCs (b : Bk) : Array Value := #[.int .i16 b.c, .int .u8 b.m0, .int .u8 b.m1, .int .u8 b.m2, .int .i16 b.v, .int .i16 b.wd, .int .i16 b.h, .int .i16 b.wt]
theorem put8_blk {W : World} {g : Nat} {t : TypeId} {z0 z1 z2 z3 z4 z5 z6 z7 : Value} (b : Bk) (h : W.heap[g]? = some (.cells #[z0, z1, z2, z3, z4, z5, z6, z7] t (0, 0))) : (put8 W g b).heap[g]? = some (.cells (bkCs b) t (0, 0)) := by
  unfold put8
  have h7 := blk_set (blk_set (blk_set (blk_set (blk_set (blk_set (blk_set (blk_set h 0 (.int .i16 b.c)) 1 (.int .u8 b.m0)) 2 (.int .u8 b.m1)) 3 (.int .u8 b.m2)) 4 (.int .i16 b.v)) 5 (.int .i16 b.wd)) 6 (.int .i16 b.h)) 7 (.int .i16 b.wt)
  simpa only [List.setIfInBounds_toArray, List.set_cons_zero, List.set_cons_succ] using h7
theorem put8_far {W : World} {g g' : Nat} {t : TypeId} {cs : Array Value} (b : Bk) (h : W.heap[g']? = some (.cells cs t (0, 0))) (hg : g' ≠ g) : (put8 W g b).heap[g']? = some (.cells cs t (0, 0)) :=
  blk_far (blk_far (blk_far (blk_far (blk_far (blk_far (blk_far (blk_far h (p := ⟨g, 0, none⟩) hg _) (p := ⟨g, 1, none⟩) hg _) (p := ⟨g, 2, none⟩) hg _) (p := ⟨g, 3, none⟩) hg _) (p := ⟨g, 4, none⟩) hg _) (p := ⟨g, 5, none⟩) hg _) (p := ⟨g, 6, none⟩) hg _) (p := ⟨g, 7, none⟩) hg _
theorem put8_below {w W : World} {g : Nat} (b : Bk) (h : Below w.heap.size w W) (hg : w.heap.size ≤ g) : Below w.heap.size w (put8 W g b) := by
  unfold put8
  exact Below.setCell (Below.setCell (Below.setCell (Below.setCell (Below.setCell (Below.setCell (Below.setCell (Below.setCell h (p := ⟨g, 0, none⟩) hg _) (p := ⟨g, 1, none⟩) hg _) (p := ⟨g, 2, none⟩) hg _) (p := ⟨g, 3, none⟩) hg _) (p := ⟨g, 4, none⟩) hg _) (p := ⟨g, 5, none⟩) hg _) (p := ⟨g, 6, none⟩) hg _) (p := ⟨g, 7, none⟩) hg _
/-- What a store into the result keeps. -/
def KG (w0 : World) (g : Nat) (b w : World) : Prop := (∀ o, b.heap[g]? = some o → w.heap[g]? = some o) ∧ (Below w0.heap.size w0 b → Below w0.heap.size w0 w)
theorem kG (w0 : World) (g : Nat) : Keep (KG w0 g) := ⟨fun h => ⟨fun _ ho => blk_below ho h, fun hb => bstep hb h⟩, fun h k => ⟨fun _ ho => k.1 _ (h.1 _ ho), fun hb => k.2 (h.2 hb)⟩⟩
theorem run_arr (W : World) (g c : Nat) : (Instr.arrayAt 42 (.slice (some ⟨g, 0, none⟩) 3 c)).run Tryz.prog W = .ok (.pointer (some ⟨g, 0, none⟩)) W := by
  simp [Instr.arrayAt, run_underlying Tryz.underlying42]
theorem cut_c (l : Bs) (hl : l.length ≤ 1048576) (w : World) (ht : Txt w) : Calls Tryz.prog 71 #[.string (bS l), .string (bS [120])] w (Ret w (.tuple #[.string (bS (Go.Lib.cut l [120]).1), .string (bS (Go.Lib.cut l [120]).2.1), .bool (Go.Lib.cut l [120]).2.2])) := by
  obtain ⟨m, hm⟩ := ht.mx
  refine (Tryz.strings_Cut (bS l) (bS [120]) m w (by rw [bS_size]; omega) hm).mono ?_
  rintro e w' ⟨rfl, k, rfl⟩
  rw [bS_toList, bS_toList]
  exact ⟨rfl, bdrewN (Below.refl _ _) k⟩
set_option maxHeartbeats 4000000 in
theorem readBook_c (l : Bs) (hl : l.length ≤ 1048576) (w : World) (ht : Txt w) : Calls Tryz.prog 40 #[.string (bS l)] w (Ret w (.tuple #[(rbV l).val, .bool (bkK l)])) := by
  have hb0 : Below w.heap.size w (w.alloc (.cells #[.int .i16 0, .int .u8 0, .int .u8 0, .int .u8 0, .int .i16 0, .int .i16 0, .int .i16 0, .int .i16 0] 44)) := balloc (Below.refl _ _) _
  have hbx := blk_new w (.cells #[.int .i16 0, .int .u8 0, .int .u8 0, .int .u8 0, .int .i16 0, .int .i16 0, .int .i16 0, .int .i16 0] 44)
  have HS := Aside0.mk (fun W h => split_c 32 l hl W h)
  have HML := Aside0.mk (fun x hx => Nat.le_trans (splitL_mem 32 l x hx) hl)
  have HT := Aside0.mk (ht.below hb0)
  have HT0 := Aside0.mk ht
  clear ht
  by_cases hn : (splitL 32 l).length = 5
  · obtain ⟨a0, a1, a2, a3, a4, hws⟩ := five hn
    clear hn
    by_cases h3 : a1.length = 3
    · obtain ⟨x, y, z, rfl⟩ := three h3
      have HR := Aside0.mk (show rbV l = bkOf a0 a2 a3 a4 x y z ∧ bkK l = (vBook (bkOf a0 a2 a3 a4 x y z) && (bkT (bkOf a0 a2 a3 a4 x y z) == l)) from ⟨rb_five hws, rd_k hws⟩)
      rw [hws] at HS HML
      clear hws h3
      have HD := Aside0.mk (fun (a : Bs) (h : a.length ≤ 1048576) (W : World) (hw : Txt W) => short_c a h W hw)
      have l0 := HML.out a0 (by simp)
      have l2 := HML.out a2 (by simp)
      have l3 := HML.out a3 (by simp)
      have l4 := HML.out a4 (by simp)
      have HU := Aside0.mk (fun W h => cut_c a3 l3 W h)
      have hcl := cut_len1 120 a3
      generalize hcu : Go.Lib.cut a3 [120] = cu at HU hcl
      obtain ⟨p, q, ok⟩ := cu
      simp only at HU hcl
      have lp : p.length ≤ 1048576 := by have := hcl.1; omega
      have lq : q.length ≤ 1048576 := by have := hcl.2; omega
      have HB := Aside0.mk (show bkOf a0 a2 a3 a4 x y z = ⟨shN a0, x.toNat, y.toNat, z.toNat, shN a2, shN p, shN q, shN a4⟩ by unfold bkOf; rw [hcu])
      have HCV := Aside0.mk (fun W => Go.Lib.run_convert_string_bytes (P := Tryz.prog) W 9 22 5 (bS [x, y, z]) Tryz.underlying9 Tryz.underlying22 Tryz.underlying5)
      have hAA := run_arr
      have e5 : (((([a0, [x, y, z], a2, a3, a4] : List Bs).length : Nat) : Int) != 5) = false := rfl
      have e3 : ((((bS [x, y, z]).size : Nat) : Int) != 3) = false := rfl
      clear hcl hcu
      rw [HB.out] at HR
      go_enter Tryz.func40, Tryz.ntmps40
      go_wp2_with fail
      generalize World.alloc w _ = W1 at hbx hb0 HT ⊢
      refine (HS.out _ HT.out).mono ?_; rintro _ w1 ⟨_, rfl, hb1, A1, c1, rfl, hc1, hC1⟩
      have HB1 := Aside0.mk (bstep hb0 hb1)
      have HX1 := Aside0.mk (blk_below hbx hb1)
      have HT1 := Aside0.mk (HT.out.below hb1)
      obtain ⟨ad, rfl, d0, d1, d2, d3, d4⟩ := at5 hC1
      clear hb1 hC1 hc1 hbx HT hb0 HS
      go_wp2_with fail
      refine (HU.out _ HT1.out).mono ?_; rintro _ w2 ⟨rfl, hb2⟩
      have HB2 := Aside0.mk (bstep HB1.out hb2)
      have HX2 := Aside0.mk (blk_below HX1.out hb2)
      have HT2 := Aside0.mk (HT1.out.below hb2)
      have e0 := pw_cell_below hb2 d0
      have e1 := pw_cell_below hb2 d1
      have e2 := pw_cell_below hb2 d2
      have e4 := pw_cell_below hb2 d4
      clear d0 d1 d2 d3 d4 HU
      go_wp2_with fail
      have hbd : Below w2.heap.size w2 w2.drew := bdrew (Below.refl _ _)
      have HB3 := Aside0.mk (bstep HB2.out hbd)
      have HX3 := Aside0.mk (blk_below HX2.out hbd)
      have HT3 := Aside0.mk (HT2.out.below hbd)
      have d0 := pw_cell_below hbd e0
      have d1 := pw_cell_below hbd e1
      have d2 := pw_cell_below hbd e2
      have d4 := pw_cell_below hbd e4
      clear hb2 e0 e1 e2 e4 HB1 HB2 HX1 HX2 HT1 HT2
      refine region_HO (G := Ov) 24 (by kernel_rfl) (by kernel_rfl) ?_
      generalize World.drew w2 = wb at HB3 HX3 HT3 d0 d1 d2 d4 ⊢
      clear hbd
      refine HO_take Keep.ov (i := 0) (v := ?_) rfl (by kernel_rfl) (by kernel_rfl) (by kernel_rfl) (by decide) (fun _ _ _ h => h) (fun b' hb' => Or.inl ⟨by kernel_rfl, fun W hW => ?_⟩) ?_
      rotate_left
      · have hW' := hb'.step hW
        go_simp
        with_reducible rfl
      refine HO_take Keep.ov (i := 1) (v := ?_) rfl (by kernel_rfl) (by kernel_rfl) (by kernel_rfl) (by decide) (fun _ _ _ h => h) (fun b' hb' => Or.inl ⟨by kernel_rfl, fun W hW => ?_⟩) ?_
      rotate_left
      · have hW' := hb'.step hW
        go_simp
        with_reducible rfl
      refine HO_take Keep.ov (i := 2) (v := ?_) rfl (by kernel_rfl) (by kernel_rfl) (by kernel_rfl) (by decide) (fun _ _ _ h => h) (fun b' hb' => Or.inl ⟨by kernel_rfl, fun W hW => ?_⟩) ?_
      rotate_left
      · have hW' := hb'.step hW
        have q_0 := pw_cell_below hW' d0
        go_simp
        with_reducible rfl
      refine HO_take Keep.ov (i := 3) (v := .int .i16 (shN a0)) rfl (by kernel_rfl) (by kernel_rfl) (by kernel_rfl) (by decide) (fun _ _ _ h => h) (fun b' hb' => Or.inl ⟨by kernel_rfl, fun W hW => ?_⟩) ?_
      · have hW' := hb'.step hW
        go_simp
        exact (HD.out a0 l0 W (HT3.out.below hW')).mono (fun _ _ h => ⟨h.1, hW.step h.2⟩)
      refine HO_take Keep.ov (i := 4) (v := ?_) rfl (by kernel_rfl) (by kernel_rfl) (by kernel_rfl) (by decide) (fun _ _ _ h => h) (fun b' hb' => Or.inl ⟨by kernel_rfl, fun W hW => ?_⟩) ?_
      rotate_left
      · have hW' := hb'.step hW
        go_simp
        with_reducible rfl
      refine HO_take Keep.ov (i := 5) (v := ?_) rfl (by kernel_rfl) (by kernel_rfl) (by kernel_rfl) (by decide) (fun _ _ _ h => h) (fun b' hb' => Or.inl ⟨by kernel_rfl, fun W hW => ?_⟩) ?_
      rotate_left
      · have hW' := hb'.step hW
        go_simp
        with_reducible rfl
      refine HO_take Keep.ov (i := 6) (v := ?_) rfl (by kernel_rfl) (by kernel_rfl) (by kernel_rfl) (by decide) (fun _ _ _ h => h) (fun b' hb' => Or.inl ⟨by kernel_rfl, fun W hW => ?_⟩) ?_
      rotate_left
      · have hW' := hb'.step hW
        have q_0 := pw_cell_below hW' d1
        go_simp
        with_reducible rfl
      refine HO_take Keep.ov (i := 10) (v := ?_) rfl (by kernel_rfl) (by kernel_rfl) (by kernel_rfl) (by decide) (fun _ _ _ h => h) (fun b' hb' => Or.inl ⟨by kernel_rfl, fun W hW => ?_⟩) ?_
      rotate_left
      · have hW' := hb'.step hW
        go_simp
        with_reducible rfl
      refine HO_take Keep.ov (i := 11) (v := ?_) rfl (by kernel_rfl) (by kernel_rfl) (by kernel_rfl) (by decide) (fun _ _ _ h => h) (fun b' hb' => Or.inl ⟨by kernel_rfl, fun W hW => ?_⟩) ?_
      rotate_left
      · have hW' := hb'.step hW
        go_simp
        with_reducible rfl
      refine HO_take Keep.ov (i := 12) (v := ?_) rfl (by kernel_rfl) (by kernel_rfl) (by kernel_rfl) (by decide) (fun _ _ _ h => h) (fun b' hb' => Or.inl ⟨by kernel_rfl, fun W hW => ?_⟩) ?_
      rotate_left
      · have hW' := hb'.step hW
        have q_0 := pw_cell_below hW' d2
        go_simp
        with_reducible rfl
      refine HO_take Keep.ov (i := 13) (v := .int .i16 (shN a2)) rfl (by kernel_rfl) (by kernel_rfl) (by kernel_rfl) (by decide) (fun _ _ _ h => h) (fun b' hb' => Or.inl ⟨by kernel_rfl, fun W hW => ?_⟩) ?_
      · have hW' := hb'.step hW
        go_simp
        exact (HD.out a2 l2 W (HT3.out.below hW')).mono (fun _ _ h => ⟨h.1, hW.step h.2⟩)
      refine HO_take Keep.ov (i := 14) (v := ?_) rfl (by kernel_rfl) (by kernel_rfl) (by kernel_rfl) (by decide) (fun _ _ _ h => h) (fun b' hb' => Or.inl ⟨by kernel_rfl, fun W hW => ?_⟩) ?_
      rotate_left
      · have hW' := hb'.step hW
        go_simp
        with_reducible rfl
      refine HO_take Keep.ov (i := 15) (v := .int .i16 (shN p)) rfl (by kernel_rfl) (by kernel_rfl) (by kernel_rfl) (by decide) (fun _ _ _ h => h) (fun b' hb' => Or.inl ⟨by kernel_rfl, fun W hW => ?_⟩) ?_
      · have hW' := hb'.step hW
        go_simp
        exact (HD.out p lp W (HT3.out.below hW')).mono (fun _ _ h => ⟨h.1, hW.step h.2⟩)
      refine HO_take Keep.ov (i := 16) (v := ?_) rfl (by kernel_rfl) (by kernel_rfl) (by kernel_rfl) (by decide) (fun _ _ _ h => h) (fun b' hb' => Or.inl ⟨by kernel_rfl, fun W hW => ?_⟩) ?_
      rotate_left
      · have hW' := hb'.step hW
        go_simp
        with_reducible rfl
      refine HO_take Keep.ov (i := 17) (v := .int .i16 (shN q)) rfl (by kernel_rfl) (by kernel_rfl) (by kernel_rfl) (by decide) (fun _ _ _ h => h) (fun b' hb' => Or.inl ⟨by kernel_rfl, fun W hW => ?_⟩) ?_
      · have hW' := hb'.step hW
        go_simp
        exact (HD.out q lq W (HT3.out.below hW')).mono (fun _ _ h => ⟨h.1, hW.step h.2⟩)
      refine HO_take Keep.ov (i := 18) (v := ?_) rfl (by kernel_rfl) (by kernel_rfl) (by kernel_rfl) (by decide) (fun _ _ _ h => h) (fun b' hb' => Or.inl ⟨by kernel_rfl, fun W hW => ?_⟩) ?_
      rotate_left
      · have hW' := hb'.step hW
        go_simp
        with_reducible rfl
      refine HO_take Keep.ov (i := 19) (v := ?_) rfl (by kernel_rfl) (by kernel_rfl) (by kernel_rfl) (by decide) (fun _ _ _ h => h) (fun b' hb' => Or.inl ⟨by kernel_rfl, fun W hW => ?_⟩) ?_
      rotate_left
      · have hW' := hb'.step hW
        go_simp
        with_reducible rfl
      refine HO_take Keep.ov (i := 20) (v := ?_) rfl (by kernel_rfl) (by kernel_rfl) (by kernel_rfl) (by decide) (fun _ _ _ h => h) (fun b' hb' => Or.inl ⟨by kernel_rfl, fun W hW => ?_⟩) ?_
      rotate_left
      · have hW' := hb'.step hW
        have q_0 := pw_cell_below hW' d4
        go_simp
        with_reducible rfl
      refine HO_take Keep.ov (i := 21) (v := .int .i16 (shN a4)) rfl (by kernel_rfl) (by kernel_rfl) (by kernel_rfl) (by decide) (fun _ _ _ h => h) (fun b' hb' => Or.inl ⟨by kernel_rfl, fun W hW => ?_⟩) ?_
      · have hW' := hb'.step hW
        go_simp
        exact (HD.out a4 l4 W (HT3.out.below hW')).mono (fun _ _ h => ⟨h.1, hW.step h.2⟩)
      refine HO_step2 (i := 7) (j := 23) rfl rfl (by kernel_rfl) (by decide) (by decide) (by kernel_rfl) (by kernel_rfl) (fun W hW K hK => ?_) (fun W hW K hK => ?_)
      · have ocv := HCV.out W
        rw [show (bS [x, y, z]).size = 3 from rfl] at ocv
        go_simp
        refine hK _ _ (Go.Lib.bytesWorld_below _ _ _) ?_
        clear hK K
        have m0 : (Go.Lib.bytesWorld W 5 (bS [x, y, z])).cell? ⟨W.heap.size, 0, none⟩ = some (.int .u8 (x.toNat : Int)) := Go.Lib.bytesWorld_cell W 5 (bS [x, y, z]) 0 (by rw [show (bS [x, y, z]).size = 3 from rfl]; omega)
        have m1 : (Go.Lib.bytesWorld W 5 (bS [x, y, z])).cell? ⟨W.heap.size, 1, none⟩ = some (.int .u8 (y.toNat : Int)) := Go.Lib.bytesWorld_cell W 5 (bS [x, y, z]) 1 (by rw [show (bS [x, y, z]).size = 3 from rfl]; omega)
        have m2 : (Go.Lib.bytesWorld W 5 (bS [x, y, z])).cell? ⟨W.heap.size, 2, none⟩ = some (.int .u8 (z.toNat : Int)) := Go.Lib.bytesWorld_cell W 5 (bS [x, y, z]) 2 (by rw [show (bS [x, y, z]).size = 3 from rfl]; omega)
        have HW := Aside0.mk (Ov.step hW (Go.Lib.bytesWorld_below W 5 (bS [x, y, z])))
        clear ocv hW
        generalize Go.Lib.bytesWorld W 5 (bS [x, y, z]) = w7 at m0 m1 m2 HW ⊢
        generalize W.heap.size = g7 at m0 m1 m2 ⊢
        refine HO_take Keep.ov (i := 8) (v := ?_) rfl (by kernel_rfl) (by kernel_rfl) (by kernel_rfl) (by decide) (fun _ _ _ h => h) (fun b' hb' => Or.inl ⟨by kernel_rfl, fun W hW => ?_⟩) ?_
        rotate_left
        · have hW' := hb'.step hW
          go_simp
          with_reducible rfl
        refine HO_take Keep.ov (i := 9) (v := ?_) rfl (by kernel_rfl) (by kernel_rfl) (by kernel_rfl) (by decide) (fun _ _ _ h => h) (fun b' hb' => Or.inl ⟨by kernel_rfl, fun W hW => ?_⟩) ?_
        rotate_left
        · have hW' := hb'.step hW
          have q_0 := pw_cell_below hW' m0
          have q_1 := pw_cell_below hW' m1
          have q_2 := pw_cell_below hW' m2
          go_simp
          with_reducible rfl
        refine HO_take Keep.ov (i := 22) (v := ?_) rfl (by kernel_rfl) (by kernel_rfl) (by kernel_rfl) (by decide) (fun _ _ _ h => h) (fun b' hb' => Or.inl ⟨by kernel_rfl, fun W hW => ?_⟩) ?_
        rotate_left
        · have hW' := hb'.step hW
          go_simp
          with_reducible rfl
        refine HO_step (i := 23) rfl (by kernel_rfl) (by decide) (by kernel_rfl) (fun W2 hW2 K hK => ?_)
        go_simp
        refine hK _ _ (balloc (Below.refl _ _) _) ?_
        clear hK K
        have HY := Aside0.mk (blk_new W2 (.cells #[.int .i16 0, .int .u8 0, .int .u8 0, .int .u8 0, .int .i16 0, .int .i16 0, .int .i16 0, .int .i16 0] 44))
        have HW2 := Aside0.mk (HW.out.step (hW2.step (balloc (Below.refl W2.heap.size W2) (.cells #[.int .i16 0, .int .u8 0, .int .u8 0, .int .u8 0, .int .i16 0, .int .i16 0, .int .i16 0, .int .i16 0] 44))))
        have hgt := Aside0.mk (show w.heap.size < W2.heap.size by have := blk_lt HX3.out; have := HW.out.size; have := hW2.size; omega)
        clear hW2 m0 m1 m2 HW
        generalize World.alloc W2 _ = W3 at HY HW2 ⊢
        generalize W2.heap.size = g8 at HY hgt ⊢
        refine HO_end (by kernel_rfl) (fun W hW => ?_)
        have hx := blk_below (blk_below HX3.out HW2.out) hW
        have hy := blk_below HY.out hW
        have HB4 := Aside0.mk (bstep HB3.out (HW2.out.step hW))
        have HX4 := Aside0.mk hx
        clear hW HY HW2 HX3 HB3 HT3 hx HCV hAA d0 d1 d2 d4
        have c0 := blk_cell hy 0
        have f0 := blk_frozen hy 0
        have c1 := blk_cell hy 1
        have f1 := blk_frozen hy 1
        have c2 := blk_cell hy 2
        have f2 := blk_frozen hy 2
        have c3 := blk_cell hy 3
        have f3 := blk_frozen hy 3
        have c4 := blk_cell hy 4
        have f4 := blk_frozen hy 4
        have c5 := blk_cell hy 5
        have f5 := blk_frozen hy 5
        have c6 := blk_cell hy 6
        have f6 := blk_frozen hy 6
        have c7 := blk_cell hy 7
        have f7 := blk_frozen hy 7
        simp only [List.getElem?_toArray, List.getElem?_cons_zero, List.getElem?_cons_succ] at c0 c1 c2 c3 c4 c5 c6 c7
        go_wp2_with fail
        have hy5 := put8_blk ⟨shN a0, x.toNat, y.toNat, z.toNat, shN a2, shN p, shN q, shN a4⟩ hy
        have HX5 := Aside0.mk (put8_far ⟨shN a0, x.toNat, y.toNat, z.toNat, shN a2, shN p, shN q, shN a4⟩ HX4.out (Nat.ne_of_lt hgt.out))
        have HB5 := Aside0.mk (put8_below ⟨shN a0, x.toNat, y.toNat, z.toNat, shN a2, shN p, shN q, shN a4⟩ HB4.out (Nat.le_of_lt hgt.out))
        clear HB4 HX4 hy c0 c1 c2 c3 c4 c5 c6 c7 f0 f1 f2 f3 f4 f5 f6 f7
        change Code.wp _ _ _ _ (put8 W g8 ⟨shN a0, x.toNat, y.toNat, z.toNat, shN a2, shN p, shN q, shN a4⟩)
        generalize (⟨shN a0, x.toNat, y.toNat, z.toNat, shN a2, shN p, shN q, shN a4⟩ : Bk) = b at HR hy5 HX5 HB5 ⊢
        have hbd : Below (put8 W g8 b).heap.size (put8 W g8 b) (put8 W g8 b).drew := bdrew (Below.refl _ _)
        have hy5 := blk_below hy5 hbd
        have HX5 := Aside0.mk (blk_below HX5.out hbd)
        have HB5 := Aside0.mk (bstep HB5.out hbd)
        clear hbd
        have hKG := kG w g8
        have HVB := Aside0.mk (fun (p : World) => ValidBook_c b p)
        cases hv : vBook b
        · have HK := Aside0.mk (show bkK l = false by rw [HR.out.2, hv]; rfl)
          rw [hv] at HVB
          simp only [Bk.val] at HVB
          clear hv
          refine region_HO (G := KG w g8) 10 (by kernel_rfl) (by kernel_rfl) ?_
          generalize (put8 W g8 b).drew = W5 at hy5 HX5 HB5 ⊢
          refine HO_take hKG (i := 0) (v := ?_) rfl (by kernel_rfl) (by kernel_rfl) (by kernel_rfl) (by decide) (fun _ _ _ h => h) (fun b' hb' => Or.inl ⟨by kernel_rfl, fun W hW => ?_⟩) ?_
          rotate_left
          · have hyW := blk_below (hb'.1 _ hy5) hW
            have HBW := Aside0.mk (bstep (hb'.2 HB5.out) hW)
            have q0 := blk_cell hyW 0
            have q1 := blk_cell hyW 1
            have q2 := blk_cell hyW 2
            have q3 := blk_cell hyW 3
            have q4 := blk_cell hyW 4
            have q5 := blk_cell hyW 5
            have q6 := blk_cell hyW 6
            have q7 := blk_cell hyW 7
            simp only [List.getElem?_toArray, List.getElem?_cons_zero, List.getElem?_cons_succ] at q0 q1 q2 q3 q4 q5 q6 q7
            go_simp
            with_reducible rfl
          refine HO_take hKG (i := 1) (v := ?_) rfl (by kernel_rfl) (by kernel_rfl) (by kernel_rfl) (by decide) (fun _ _ _ h => h) (fun b' hb' => Or.inl ⟨by kernel_rfl, fun W hW => ?_⟩) ?_
          rotate_left
          · have hyW := blk_below (hb'.1 _ hy5) hW
            have HBW := Aside0.mk (bstep (hb'.2 HB5.out) hW)
            have q0 := blk_cell hyW 0
            have q1 := blk_cell hyW 1
            have q2 := blk_cell hyW 2
            have q3 := blk_cell hyW 3
            have q4 := blk_cell hyW 4
            have q5 := blk_cell hyW 5
            have q6 := blk_cell hyW 6
            have q7 := blk_cell hyW 7
            simp only [List.getElem?_toArray, List.getElem?_cons_zero, List.getElem?_cons_succ] at q0 q1 q2 q3 q4 q5 q6 q7
            go_simp
            with_reducible rfl
          refine HO_take hKG (i := 2) (v := .bool false) rfl (by kernel_rfl) (by kernel_rfl) (by kernel_rfl) (by decide) (fun _ _ _ h => h) (fun b' hb' => Or.inl ⟨by kernel_rfl, fun W hW => ?_⟩) ?_
          · have hyW := blk_below (hb'.1 _ hy5) hW
            have HBW := Aside0.mk (bstep (hb'.2 HB5.out) hW)
            have q0 := blk_cell hyW 0
            have q1 := blk_cell hyW 1
            have q2 := blk_cell hyW 2
            have q3 := blk_cell hyW 3
            have q4 := blk_cell hyW 4
            have q5 := blk_cell hyW 5
            have q6 := blk_cell hyW 6
            have q7 := blk_cell hyW 7
            simp only [List.getElem?_toArray, List.getElem?_cons_zero, List.getElem?_cons_succ] at q0 q1 q2 q3 q4 q5 q6 q7
            go_simp
            exact (HVB.out W).mono (fun _ _ h => ⟨h.1, hW.step h.2⟩)
          refine HO_take hKG (i := 3) (v := ?_) rfl (by kernel_rfl) (by kernel_rfl) (by kernel_rfl) (by decide) (fun _ _ _ h => h) (fun b' hb' => Or.inl ⟨by kernel_rfl, fun W hW => ?_⟩) ?_
          rotate_left
          · have hyW := blk_below (hb'.1 _ hy5) hW
            have HBW := Aside0.mk (bstep (hb'.2 HB5.out) hW)
            have q0 := blk_cell hyW 0
            have q1 := blk_cell hyW 1
            have q2 := blk_cell hyW 2
            have q3 := blk_cell hyW 3
            have q4 := blk_cell hyW 4
            have q5 := blk_cell hyW 5
            have q6 := blk_cell hyW 6
            have q7 := blk_cell hyW 7
            simp only [List.getElem?_toArray, List.getElem?_cons_zero, List.getElem?_cons_succ] at q0 q1 q2 q3 q4 q5 q6 q7
            go_simp
            with_reducible rfl
          refine HO_take hKG (i := 4) (v := undef) rfl (by kernel_rfl) (by kernel_rfl) (by kernel_rfl) (by decide) (fun _ _ _ h => h) (fun b' hb' => Or.inr ⟨by kernel_rfl, rfl⟩) ?_
          refine HO_take hKG (i := 5) (v := undef) rfl (by kernel_rfl) (by kernel_rfl) (by kernel_rfl) (by decide) (fun _ _ _ h => h) (fun b' hb' => Or.inr ⟨by kernel_rfl, rfl⟩) ?_
          refine HO_take hKG (i := 6) (v := undef) rfl (by kernel_rfl) (by kernel_rfl) (by kernel_rfl) (by decide) (fun _ _ _ h => h) (fun b' hb' => Or.inr ⟨by kernel_rfl, rfl⟩) ?_
          refine HO_take hKG (i := 7) (v := undef) rfl (by kernel_rfl) (by kernel_rfl) (by kernel_rfl) (by decide) (fun _ _ _ h => h) (fun b' hb' => Or.inr ⟨by kernel_rfl, rfl⟩) ?_
          refine HO_take hKG (i := 8) (v := ?_) rfl (by kernel_rfl) (by kernel_rfl) (by kernel_rfl) (by decide) (fun _ _ _ h => h) (fun b' hb' => Or.inl ⟨by kernel_rfl, fun W hW => ?_⟩) ?_
          rotate_left
          · have hyW := blk_below (hb'.1 _ hy5) hW
            have HBW := Aside0.mk (bstep (hb'.2 HB5.out) hW)
            have q0 := blk_cell hyW 0
            have q1 := blk_cell hyW 1
            have q2 := blk_cell hyW 2
            have q3 := blk_cell hyW 3
            have q4 := blk_cell hyW 4
            have q5 := blk_cell hyW 5
            have q6 := blk_cell hyW 6
            have q7 := blk_cell hyW 7
            simp only [List.getElem?_toArray, List.getElem?_cons_zero, List.getElem?_cons_succ] at q0 q1 q2 q3 q4 q5 q6 q7
            go_simp
            with_reducible rfl
          refine HO_step (i := 9) rfl (by kernel_rfl) (by decide) (by kernel_rfl) (fun W hW K hK => ?_)
          have hx6 := blk_below HX5.out hW
          have hy6 := blk_below hy5 hW
          have HB6 := Aside0.mk (bstep HB5.out hW)
          have c0 := blk_cell hx6 0
          have f0 := blk_frozen hx6 0
          have c1 := blk_cell hx6 1
          have f1 := blk_frozen hx6 1
          have c2 := blk_cell hx6 2
          have f2 := blk_frozen hx6 2
          have c3 := blk_cell hx6 3
          have f3 := blk_frozen hx6 3
          have c4 := blk_cell hx6 4
          have f4 := blk_frozen hx6 4
          have c5 := blk_cell hx6 5
          have f5 := blk_frozen hx6 5
          have c6 := blk_cell hx6 6
          have f6 := blk_frozen hx6 6
          have c7 := blk_cell hx6 7
          have f7 := blk_frozen hx6 7
          simp only [List.getElem?_toArray, List.getElem?_cons_zero, List.getElem?_cons_succ] at c0 c1 c2 c3 c4 c5 c6 c7
          go_simp
          refine hK _ (put8 W w.heap.size b) ⟨fun o ho => ?_, fun hb => put8_below b hb (Nat.le_refl _)⟩ ?_
          · rw [hy6] at ho
            rw [← Option.some.inj ho]
            exact put8_far b hy6 (Nat.ne_of_gt hgt.out)
          clear hK K
          have hz6 := put8_blk b hx6
          have HB7 := Aside0.mk (put8_below b HB6.out (Nat.le_refl _))
          clear HB6 hx6 hy6 c0 c1 c2 c3 c4 c5 c6 c7 f0 f1 f2 f3 f4 f5 f6 f7 hW
          generalize put8 W w.heap.size b = W6 at hz6 HB7 ⊢
          refine HO_end (by kernel_rfl) (fun W7 hW7 => ?_)
          have hx7 := blk_below hz6 hW7
          have HB8 := Aside0.mk (bstep HB7.out hW7)
          have c0 := blk_cell hx7 0
          have f0 := blk_frozen hx7 0
          have c1 := blk_cell hx7 1
          have f1 := blk_frozen hx7 1
          have c2 := blk_cell hx7 2
          have f2 := blk_frozen hx7 2
          have c3 := blk_cell hx7 3
          have f3 := blk_frozen hx7 3
          have c4 := blk_cell hx7 4
          have f4 := blk_frozen hx7 4
          have c5 := blk_cell hx7 5
          have f5 := blk_frozen hx7 5
          have c6 := blk_cell hx7 6
          have f6 := blk_frozen hx7 6
          have c7 := blk_cell hx7 7
          have f7 := blk_frozen hx7 7
          simp only [List.getElem?_toArray, List.getElem?_cons_zero, List.getElem?_cons_succ] at c0 c1 c2 c3 c4 c5 c6 c7
          go_wp2
          exact bodyPost_ret (v := .tuple #[b.val, .bool (false)]) (by simp [results, Tryz.results40, go_sem, c0, c1, c2, c3, c4, c5, c6, c7, f0, f1, f2, f3, f4, f5, f6, f7, Bk.val]) rfl ⟨ret_bk HR.out.1.symm HK.out.symm, HB8.out⟩
        · have HK := Aside0.mk (show bkK l = ((bS (bkT b)).toList == (bS l).toList) by rw [HR.out.2, hv, bS_list, bS_list]; rfl)
          have HVT := Aside0.mk (fun (p : World) (hp : Below w.heap.size w p) => bookText_c b (vB1 hv) p (HT0.out.tab.below hp))
          rw [hv] at HVB
          simp only [Bk.val] at HVB HVT
          clear hv
          refine region_HO (G := KG w g8) 10 (by kernel_rfl) (by kernel_rfl) ?_
          generalize (put8 W g8 b).drew = W5 at hy5 HX5 HB5 ⊢
          refine HO_take hKG (i := 0) (v := ?_) rfl (by kernel_rfl) (by kernel_rfl) (by kernel_rfl) (by decide) (fun _ _ _ h => h) (fun b' hb' => Or.inl ⟨by kernel_rfl, fun W hW => ?_⟩) ?_
          rotate_left
          · have hyW := blk_below (hb'.1 _ hy5) hW
            have HBW := Aside0.mk (bstep (hb'.2 HB5.out) hW)
            have q0 := blk_cell hyW 0
            have q1 := blk_cell hyW 1
            have q2 := blk_cell hyW 2
            have q3 := blk_cell hyW 3
            have q4 := blk_cell hyW 4
            have q5 := blk_cell hyW 5
            have q6 := blk_cell hyW 6
            have q7 := blk_cell hyW 7
            simp only [List.getElem?_toArray, List.getElem?_cons_zero, List.getElem?_cons_succ] at q0 q1 q2 q3 q4 q5 q6 q7
            go_simp
            with_reducible rfl
          refine HO_take hKG (i := 1) (v := ?_) rfl (by kernel_rfl) (by kernel_rfl) (by kernel_rfl) (by decide) (fun _ _ _ h => h) (fun b' hb' => Or.inl ⟨by kernel_rfl, fun W hW => ?_⟩) ?_
          rotate_left
          · have hyW := blk_below (hb'.1 _ hy5) hW
            have HBW := Aside0.mk (bstep (hb'.2 HB5.out) hW)
            have q0 := blk_cell hyW 0
            have q1 := blk_cell hyW 1
            have q2 := blk_cell hyW 2
            have q3 := blk_cell hyW 3
            have q4 := blk_cell hyW 4
            have q5 := blk_cell hyW 5
            have q6 := blk_cell hyW 6
            have q7 := blk_cell hyW 7
            simp only [List.getElem?_toArray, List.getElem?_cons_zero, List.getElem?_cons_succ] at q0 q1 q2 q3 q4 q5 q6 q7
            go_simp
            with_reducible rfl
          refine HO_take hKG (i := 2) (v := .bool true) rfl (by kernel_rfl) (by kernel_rfl) (by kernel_rfl) (by decide) (fun _ _ _ h => h) (fun b' hb' => Or.inl ⟨by kernel_rfl, fun W hW => ?_⟩) ?_
          · have hyW := blk_below (hb'.1 _ hy5) hW
            have HBW := Aside0.mk (bstep (hb'.2 HB5.out) hW)
            have q0 := blk_cell hyW 0
            have q1 := blk_cell hyW 1
            have q2 := blk_cell hyW 2
            have q3 := blk_cell hyW 3
            have q4 := blk_cell hyW 4
            have q5 := blk_cell hyW 5
            have q6 := blk_cell hyW 6
            have q7 := blk_cell hyW 7
            simp only [List.getElem?_toArray, List.getElem?_cons_zero, List.getElem?_cons_succ] at q0 q1 q2 q3 q4 q5 q6 q7
            go_simp
            exact (HVB.out W).mono (fun _ _ h => ⟨h.1, hW.step h.2⟩)
          refine HO_take hKG (i := 3) (v := ?_) rfl (by kernel_rfl) (by kernel_rfl) (by kernel_rfl) (by decide) (fun _ _ _ h => h) (fun b' hb' => Or.inl ⟨by kernel_rfl, fun W hW => ?_⟩) ?_
          rotate_left
          · have hyW := blk_below (hb'.1 _ hy5) hW
            have HBW := Aside0.mk (bstep (hb'.2 HB5.out) hW)
            have q0 := blk_cell hyW 0
            have q1 := blk_cell hyW 1
            have q2 := blk_cell hyW 2
            have q3 := blk_cell hyW 3
            have q4 := blk_cell hyW 4
            have q5 := blk_cell hyW 5
            have q6 := blk_cell hyW 6
            have q7 := blk_cell hyW 7
            simp only [List.getElem?_toArray, List.getElem?_cons_zero, List.getElem?_cons_succ] at q0 q1 q2 q3 q4 q5 q6 q7
            go_simp
            with_reducible rfl
          refine HO_take hKG (i := 4) (v := ?_) rfl (by kernel_rfl) (by kernel_rfl) (by kernel_rfl) (by decide) (fun _ _ _ h => h) (fun b' hb' => Or.inl ⟨by kernel_rfl, fun W hW => ?_⟩) ?_
          rotate_left
          · have hyW := blk_below (hb'.1 _ hy5) hW
            have HBW := Aside0.mk (bstep (hb'.2 HB5.out) hW)
            have q0 := blk_cell hyW 0
            have q1 := blk_cell hyW 1
            have q2 := blk_cell hyW 2
            have q3 := blk_cell hyW 3
            have q4 := blk_cell hyW 4
            have q5 := blk_cell hyW 5
            have q6 := blk_cell hyW 6
            have q7 := blk_cell hyW 7
            simp only [List.getElem?_toArray, List.getElem?_cons_zero, List.getElem?_cons_succ] at q0 q1 q2 q3 q4 q5 q6 q7
            go_simp
            with_reducible rfl
          refine HO_take hKG (i := 5) (v := .string (bS (bkT b))) rfl (by kernel_rfl) (by kernel_rfl) (by kernel_rfl) (by decide) (fun _ _ _ h => h) (fun b' hb' => Or.inl ⟨by kernel_rfl, fun W hW => ?_⟩) ?_
          · have hyW := blk_below (hb'.1 _ hy5) hW
            have HBW := Aside0.mk (bstep (hb'.2 HB5.out) hW)
            have q0 := blk_cell hyW 0
            have q1 := blk_cell hyW 1
            have q2 := blk_cell hyW 2
            have q3 := blk_cell hyW 3
            have q4 := blk_cell hyW 4
            have q5 := blk_cell hyW 5
            have q6 := blk_cell hyW 6
            have q7 := blk_cell hyW 7
            simp only [List.getElem?_toArray, List.getElem?_cons_zero, List.getElem?_cons_succ] at q0 q1 q2 q3 q4 q5 q6 q7
            go_simp
            exact (HVT.out W HBW.out).mono (fun _ _ h => ⟨h.1, hW.step h.2⟩)
          refine HO_take hKG (i := 6) (v := ?_) rfl (by kernel_rfl) (by kernel_rfl) (by kernel_rfl) (by decide) (fun _ _ _ h => h) (fun b' hb' => Or.inl ⟨by kernel_rfl, fun W hW => ?_⟩) ?_
          rotate_left
          · have hyW := blk_below (hb'.1 _ hy5) hW
            have HBW := Aside0.mk (bstep (hb'.2 HB5.out) hW)
            have q0 := blk_cell hyW 0
            have q1 := blk_cell hyW 1
            have q2 := blk_cell hyW 2
            have q3 := blk_cell hyW 3
            have q4 := blk_cell hyW 4
            have q5 := blk_cell hyW 5
            have q6 := blk_cell hyW 6
            have q7 := blk_cell hyW 7
            simp only [List.getElem?_toArray, List.getElem?_cons_zero, List.getElem?_cons_succ] at q0 q1 q2 q3 q4 q5 q6 q7
            go_simp
            with_reducible rfl
          refine HO_take hKG (i := 7) (v := ?_) rfl (by kernel_rfl) (by kernel_rfl) (by kernel_rfl) (by decide) (fun _ _ _ h => h) (fun b' hb' => Or.inl ⟨by kernel_rfl, fun W hW => ?_⟩) ?_
          rotate_left
          · have hyW := blk_below (hb'.1 _ hy5) hW
            have HBW := Aside0.mk (bstep (hb'.2 HB5.out) hW)
            have q0 := blk_cell hyW 0
            have q1 := blk_cell hyW 1
            have q2 := blk_cell hyW 2
            have q3 := blk_cell hyW 3
            have q4 := blk_cell hyW 4
            have q5 := blk_cell hyW 5
            have q6 := blk_cell hyW 6
            have q7 := blk_cell hyW 7
            simp only [List.getElem?_toArray, List.getElem?_cons_zero, List.getElem?_cons_succ] at q0 q1 q2 q3 q4 q5 q6 q7
            go_simp
            with_reducible rfl
          refine HO_take hKG (i := 8) (v := ?_) rfl (by kernel_rfl) (by kernel_rfl) (by kernel_rfl) (by decide) (fun _ _ _ h => h) (fun b' hb' => Or.inl ⟨by kernel_rfl, fun W hW => ?_⟩) ?_
          rotate_left
          · have hyW := blk_below (hb'.1 _ hy5) hW
            have HBW := Aside0.mk (bstep (hb'.2 HB5.out) hW)
            have q0 := blk_cell hyW 0
            have q1 := blk_cell hyW 1
            have q2 := blk_cell hyW 2
            have q3 := blk_cell hyW 3
            have q4 := blk_cell hyW 4
            have q5 := blk_cell hyW 5
            have q6 := blk_cell hyW 6
            have q7 := blk_cell hyW 7
            simp only [List.getElem?_toArray, List.getElem?_cons_zero, List.getElem?_cons_succ] at q0 q1 q2 q3 q4 q5 q6 q7
            go_simp
            with_reducible rfl
          refine HO_step (i := 9) rfl (by kernel_rfl) (by decide) (by kernel_rfl) (fun W hW K hK => ?_)
          have hx6 := blk_below HX5.out hW
          have hy6 := blk_below hy5 hW
          have HB6 := Aside0.mk (bstep HB5.out hW)
          have c0 := blk_cell hx6 0
          have f0 := blk_frozen hx6 0
          have c1 := blk_cell hx6 1
          have f1 := blk_frozen hx6 1
          have c2 := blk_cell hx6 2
          have f2 := blk_frozen hx6 2
          have c3 := blk_cell hx6 3
          have f3 := blk_frozen hx6 3
          have c4 := blk_cell hx6 4
          have f4 := blk_frozen hx6 4
          have c5 := blk_cell hx6 5
          have f5 := blk_frozen hx6 5
          have c6 := blk_cell hx6 6
          have f6 := blk_frozen hx6 6
          have c7 := blk_cell hx6 7
          have f7 := blk_frozen hx6 7
          simp only [List.getElem?_toArray, List.getElem?_cons_zero, List.getElem?_cons_succ] at c0 c1 c2 c3 c4 c5 c6 c7
          go_simp
          refine hK _ (put8 W w.heap.size b) ⟨fun o ho => ?_, fun hb => put8_below b hb (Nat.le_refl _)⟩ ?_
          · rw [hy6] at ho
            rw [← Option.some.inj ho]
            exact put8_far b hy6 (Nat.ne_of_gt hgt.out)
          clear hK K
          have hz6 := put8_blk b hx6
          have HB7 := Aside0.mk (put8_below b HB6.out (Nat.le_refl _))
          clear HB6 hx6 hy6 c0 c1 c2 c3 c4 c5 c6 c7 f0 f1 f2 f3 f4 f5 f6 f7 hW
          generalize put8 W w.heap.size b = W6 at hz6 HB7 ⊢
          refine HO_end (by kernel_rfl) (fun W7 hW7 => ?_)
          have hx7 := blk_below hz6 hW7
          have HB8 := Aside0.mk (bstep HB7.out hW7)
          have c0 := blk_cell hx7 0
          have f0 := blk_frozen hx7 0
          have c1 := blk_cell hx7 1
          have f1 := blk_frozen hx7 1
          have c2 := blk_cell hx7 2
          have f2 := blk_frozen hx7 2
          have c3 := blk_cell hx7 3
          have f3 := blk_frozen hx7 3
          have c4 := blk_cell hx7 4
          have f4 := blk_frozen hx7 4
          have c5 := blk_cell hx7 5
          have f5 := blk_frozen hx7 5
          have c6 := blk_cell hx7 6
          have f6 := blk_frozen hx7 6
          have c7 := blk_cell hx7 7
          have f7 := blk_frozen hx7 7
          simp only [List.getElem?_toArray, List.getElem?_cons_zero, List.getElem?_cons_succ] at c0 c1 c2 c3 c4 c5 c6 c7
          go_wp2
          exact bodyPost_ret (v := .tuple #[b.val, .bool (((bS (bkT b)).toList == (bS l).toList))]) (by simp [results, Tryz.results40, go_sem, c0, c1, c2, c3, c4, c5, c6, c7, f0, f1, f2, f3, f4, f5, f6, f7, Bk.val]) rfl ⟨ret_bk HR.out.1.symm HK.out.symm, HB8.out⟩
      · go_simp
        refine hK _ _ (balloc (Below.refl _ _) _) ?_
        clear hK K
        have hy := blk_new W (.cells #[.int .i16 0, .int .u8 0, .int .u8 0, .int .u8 0, .int .i16 0, .int .i16 0, .int .i16 0, .int .i16 0] 44)
        have HW := Aside0.mk (hW.step (balloc (Below.refl W.heap.size W) (.cells #[.int .i16 0, .int .u8 0, .int .u8 0, .int .u8 0, .int .i16 0, .int .i16 0, .int .i16 0, .int .i16 0] 44)))
        have hgt := Aside0.mk (show w.heap.size < W.heap.size by have := blk_lt HX3.out; have := hW.size; omega)
        clear hW
        generalize World.alloc W _ = W3 at hy HW ⊢
        generalize W.heap.size = g8 at hy hgt ⊢
        refine HO_step (i := 7) rfl (by kernel_rfl) (by decide) (by kernel_rfl) (fun W hW K hK => ?_)
        have ocv := HCV.out W
        rw [show (bS [x, y, z]).size = 3 from rfl] at ocv
        go_simp
        refine hK _ _ (Go.Lib.bytesWorld_below _ _ _) ?_
        clear hK K
        have m0 : (Go.Lib.bytesWorld W 5 (bS [x, y, z])).cell? ⟨W.heap.size, 0, none⟩ = some (.int .u8 (x.toNat : Int)) := Go.Lib.bytesWorld_cell W 5 (bS [x, y, z]) 0 (by rw [show (bS [x, y, z]).size = 3 from rfl]; omega)
        have m1 : (Go.Lib.bytesWorld W 5 (bS [x, y, z])).cell? ⟨W.heap.size, 1, none⟩ = some (.int .u8 (y.toNat : Int)) := Go.Lib.bytesWorld_cell W 5 (bS [x, y, z]) 1 (by rw [show (bS [x, y, z]).size = 3 from rfl]; omega)
        have m2 : (Go.Lib.bytesWorld W 5 (bS [x, y, z])).cell? ⟨W.heap.size, 2, none⟩ = some (.int .u8 (z.toNat : Int)) := Go.Lib.bytesWorld_cell W 5 (bS [x, y, z]) 2 (by rw [show (bS [x, y, z]).size = 3 from rfl]; omega)
        have hW7 := Ov.step hW (Go.Lib.bytesWorld_below W 5 (bS [x, y, z]))
        have HY := Aside0.mk (blk_below hy hW7)
        have HW2 := Aside0.mk (HW.out.step hW7)
        clear ocv hW hW7 hy HW
        generalize Go.Lib.bytesWorld W 5 (bS [x, y, z]) = w7 at m0 m1 m2 HY HW2 ⊢
        generalize W.heap.size = g7 at m0 m1 m2 ⊢
        refine HO_take Keep.ov (i := 8) (v := ?_) rfl (by kernel_rfl) (by kernel_rfl) (by kernel_rfl) (by decide) (fun _ _ _ h => h) (fun b' hb' => Or.inl ⟨by kernel_rfl, fun W hW => ?_⟩) ?_
        rotate_left
        · have hW' := hb'.step hW
          go_simp
          with_reducible rfl
        refine HO_take Keep.ov (i := 9) (v := ?_) rfl (by kernel_rfl) (by kernel_rfl) (by kernel_rfl) (by decide) (fun _ _ _ h => h) (fun b' hb' => Or.inl ⟨by kernel_rfl, fun W hW => ?_⟩) ?_
        rotate_left
        · have hW' := hb'.step hW
          have q_0 := pw_cell_below hW' m0
          have q_1 := pw_cell_below hW' m1
          have q_2 := pw_cell_below hW' m2
          go_simp
          with_reducible rfl
        refine HO_take Keep.ov (i := 22) (v := ?_) rfl (by kernel_rfl) (by kernel_rfl) (by kernel_rfl) (by decide) (fun _ _ _ h => h) (fun b' hb' => Or.inl ⟨by kernel_rfl, fun W hW => ?_⟩) ?_
        rotate_left
        · have hW' := hb'.step hW
          go_simp
          with_reducible rfl
        clear m0 m1 m2
        refine HO_end (by kernel_rfl) (fun W hW => ?_)
        have hx := blk_below (blk_below HX3.out HW2.out) hW
        have hy := blk_below HY.out hW
        have HB4 := Aside0.mk (bstep HB3.out (HW2.out.step hW))
        have HX4 := Aside0.mk hx
        clear hW HY HW2 HX3 HB3 HT3 hx HCV hAA d0 d1 d2 d4
        have c0 := blk_cell hy 0
        have f0 := blk_frozen hy 0
        have c1 := blk_cell hy 1
        have f1 := blk_frozen hy 1
        have c2 := blk_cell hy 2
        have f2 := blk_frozen hy 2
        have c3 := blk_cell hy 3
        have f3 := blk_frozen hy 3
        have c4 := blk_cell hy 4
        have f4 := blk_frozen hy 4
        have c5 := blk_cell hy 5
        have f5 := blk_frozen hy 5
        have c6 := blk_cell hy 6
        have f6 := blk_frozen hy 6
        have c7 := blk_cell hy 7
        have f7 := blk_frozen hy 7
        simp only [List.getElem?_toArray, List.getElem?_cons_zero, List.getElem?_cons_succ] at c0 c1 c2 c3 c4 c5 c6 c7
        go_wp2_with fail
        have hy5 := put8_blk ⟨shN a0, x.toNat, y.toNat, z.toNat, shN a2, shN p, shN q, shN a4⟩ hy
        have HX5 := Aside0.mk (put8_far ⟨shN a0, x.toNat, y.toNat, z.toNat, shN a2, shN p, shN q, shN a4⟩ HX4.out (Nat.ne_of_lt hgt.out))
        have HB5 := Aside0.mk (put8_below ⟨shN a0, x.toNat, y.toNat, z.toNat, shN a2, shN p, shN q, shN a4⟩ HB4.out (Nat.le_of_lt hgt.out))
        clear HB4 HX4 hy c0 c1 c2 c3 c4 c5 c6 c7 f0 f1 f2 f3 f4 f5 f6 f7
        change Code.wp _ _ _ _ (put8 W g8 ⟨shN a0, x.toNat, y.toNat, z.toNat, shN a2, shN p, shN q, shN a4⟩)
        generalize (⟨shN a0, x.toNat, y.toNat, z.toNat, shN a2, shN p, shN q, shN a4⟩ : Bk) = b at HR hy5 HX5 HB5 ⊢
        have hbd : Below (put8 W g8 b).heap.size (put8 W g8 b) (put8 W g8 b).drew := bdrew (Below.refl _ _)
        have hy5 := blk_below hy5 hbd
        have HX5 := Aside0.mk (blk_below HX5.out hbd)
        have HB5 := Aside0.mk (bstep HB5.out hbd)
        clear hbd
        have hKG := kG w g8
        have HVB := Aside0.mk (fun (p : World) => ValidBook_c b p)
        cases hv : vBook b
        · have HK := Aside0.mk (show bkK l = false by rw [HR.out.2, hv]; rfl)
          rw [hv] at HVB
          simp only [Bk.val] at HVB
          clear hv
          refine region_HO (G := KG w g8) 10 (by kernel_rfl) (by kernel_rfl) ?_
          generalize (put8 W g8 b).drew = W5 at hy5 HX5 HB5 ⊢
          refine HO_take hKG (i := 0) (v := ?_) rfl (by kernel_rfl) (by kernel_rfl) (by kernel_rfl) (by decide) (fun _ _ _ h => h) (fun b' hb' => Or.inl ⟨by kernel_rfl, fun W hW => ?_⟩) ?_
          rotate_left
          · have hyW := blk_below (hb'.1 _ hy5) hW
            have HBW := Aside0.mk (bstep (hb'.2 HB5.out) hW)
            have q0 := blk_cell hyW 0
            have q1 := blk_cell hyW 1
            have q2 := blk_cell hyW 2
            have q3 := blk_cell hyW 3
            have q4 := blk_cell hyW 4
            have q5 := blk_cell hyW 5
            have q6 := blk_cell hyW 6
            have q7 := blk_cell hyW 7
            simp only [List.getElem?_toArray, List.getElem?_cons_zero, List.getElem?_cons_succ] at q0 q1 q2 q3 q4 q5 q6 q7
            go_simp
            with_reducible rfl
          refine HO_take hKG (i := 1) (v := ?_) rfl (by kernel_rfl) (by kernel_rfl) (by kernel_rfl) (by decide) (fun _ _ _ h => h) (fun b' hb' => Or.inl ⟨by kernel_rfl, fun W hW => ?_⟩) ?_
          rotate_left
          · have hyW := blk_below (hb'.1 _ hy5) hW
            have HBW := Aside0.mk (bstep (hb'.2 HB5.out) hW)
            have q0 := blk_cell hyW 0
            have q1 := blk_cell hyW 1
            have q2 := blk_cell hyW 2
            have q3 := blk_cell hyW 3
            have q4 := blk_cell hyW 4
            have q5 := blk_cell hyW 5
            have q6 := blk_cell hyW 6
            have q7 := blk_cell hyW 7
            simp only [List.getElem?_toArray, List.getElem?_cons_zero, List.getElem?_cons_succ] at q0 q1 q2 q3 q4 q5 q6 q7
            go_simp
            with_reducible rfl
          refine HO_take hKG (i := 2) (v := .bool false) rfl (by kernel_rfl) (by kernel_rfl) (by kernel_rfl) (by decide) (fun _ _ _ h => h) (fun b' hb' => Or.inl ⟨by kernel_rfl, fun W hW => ?_⟩) ?_
          · have hyW := blk_below (hb'.1 _ hy5) hW
            have HBW := Aside0.mk (bstep (hb'.2 HB5.out) hW)
            have q0 := blk_cell hyW 0
            have q1 := blk_cell hyW 1
            have q2 := blk_cell hyW 2
            have q3 := blk_cell hyW 3
            have q4 := blk_cell hyW 4
            have q5 := blk_cell hyW 5
            have q6 := blk_cell hyW 6
            have q7 := blk_cell hyW 7
            simp only [List.getElem?_toArray, List.getElem?_cons_zero, List.getElem?_cons_succ] at q0 q1 q2 q3 q4 q5 q6 q7
            go_simp
            exact (HVB.out W).mono (fun _ _ h => ⟨h.1, hW.step h.2⟩)
          refine HO_take hKG (i := 3) (v := ?_) rfl (by kernel_rfl) (by kernel_rfl) (by kernel_rfl) (by decide) (fun _ _ _ h => h) (fun b' hb' => Or.inl ⟨by kernel_rfl, fun W hW => ?_⟩) ?_
          rotate_left
          · have hyW := blk_below (hb'.1 _ hy5) hW
            have HBW := Aside0.mk (bstep (hb'.2 HB5.out) hW)
            have q0 := blk_cell hyW 0
            have q1 := blk_cell hyW 1
            have q2 := blk_cell hyW 2
            have q3 := blk_cell hyW 3
            have q4 := blk_cell hyW 4
            have q5 := blk_cell hyW 5
            have q6 := blk_cell hyW 6
            have q7 := blk_cell hyW 7
            simp only [List.getElem?_toArray, List.getElem?_cons_zero, List.getElem?_cons_succ] at q0 q1 q2 q3 q4 q5 q6 q7
            go_simp
            with_reducible rfl
          refine HO_take hKG (i := 4) (v := undef) rfl (by kernel_rfl) (by kernel_rfl) (by kernel_rfl) (by decide) (fun _ _ _ h => h) (fun b' hb' => Or.inr ⟨by kernel_rfl, rfl⟩) ?_
          refine HO_take hKG (i := 5) (v := undef) rfl (by kernel_rfl) (by kernel_rfl) (by kernel_rfl) (by decide) (fun _ _ _ h => h) (fun b' hb' => Or.inr ⟨by kernel_rfl, rfl⟩) ?_
          refine HO_take hKG (i := 6) (v := undef) rfl (by kernel_rfl) (by kernel_rfl) (by kernel_rfl) (by decide) (fun _ _ _ h => h) (fun b' hb' => Or.inr ⟨by kernel_rfl, rfl⟩) ?_
          refine HO_take hKG (i := 7) (v := undef) rfl (by kernel_rfl) (by kernel_rfl) (by kernel_rfl) (by decide) (fun _ _ _ h => h) (fun b' hb' => Or.inr ⟨by kernel_rfl, rfl⟩) ?_
          refine HO_take hKG (i := 8) (v := ?_) rfl (by kernel_rfl) (by kernel_rfl) (by kernel_rfl) (by decide) (fun _ _ _ h => h) (fun b' hb' => Or.inl ⟨by kernel_rfl, fun W hW => ?_⟩) ?_
          rotate_left
          · have hyW := blk_below (hb'.1 _ hy5) hW
            have HBW := Aside0.mk (bstep (hb'.2 HB5.out) hW)
            have q0 := blk_cell hyW 0
            have q1 := blk_cell hyW 1
            have q2 := blk_cell hyW 2
            have q3 := blk_cell hyW 3
            have q4 := blk_cell hyW 4
            have q5 := blk_cell hyW 5
            have q6 := blk_cell hyW 6
            have q7 := blk_cell hyW 7
            simp only [List.getElem?_toArray, List.getElem?_cons_zero, List.getElem?_cons_succ] at q0 q1 q2 q3 q4 q5 q6 q7
            go_simp
            with_reducible rfl
          refine HO_step (i := 9) rfl (by kernel_rfl) (by decide) (by kernel_rfl) (fun W hW K hK => ?_)
          have hx6 := blk_below HX5.out hW
          have hy6 := blk_below hy5 hW
          have HB6 := Aside0.mk (bstep HB5.out hW)
          have c0 := blk_cell hx6 0
          have f0 := blk_frozen hx6 0
          have c1 := blk_cell hx6 1
          have f1 := blk_frozen hx6 1
          have c2 := blk_cell hx6 2
          have f2 := blk_frozen hx6 2
          have c3 := blk_cell hx6 3
          have f3 := blk_frozen hx6 3
          have c4 := blk_cell hx6 4
          have f4 := blk_frozen hx6 4
          have c5 := blk_cell hx6 5
          have f5 := blk_frozen hx6 5
          have c6 := blk_cell hx6 6
          have f6 := blk_frozen hx6 6
          have c7 := blk_cell hx6 7
          have f7 := blk_frozen hx6 7
          simp only [List.getElem?_toArray, List.getElem?_cons_zero, List.getElem?_cons_succ] at c0 c1 c2 c3 c4 c5 c6 c7
          go_simp
          refine hK _ (put8 W w.heap.size b) ⟨fun o ho => ?_, fun hb => put8_below b hb (Nat.le_refl _)⟩ ?_
          · rw [hy6] at ho
            rw [← Option.some.inj ho]
            exact put8_far b hy6 (Nat.ne_of_gt hgt.out)
          clear hK K
          have hz6 := put8_blk b hx6
          have HB7 := Aside0.mk (put8_below b HB6.out (Nat.le_refl _))
          clear HB6 hx6 hy6 c0 c1 c2 c3 c4 c5 c6 c7 f0 f1 f2 f3 f4 f5 f6 f7 hW
          generalize put8 W w.heap.size b = W6 at hz6 HB7 ⊢
          refine HO_end (by kernel_rfl) (fun W7 hW7 => ?_)
          have hx7 := blk_below hz6 hW7
          have HB8 := Aside0.mk (bstep HB7.out hW7)
          have c0 := blk_cell hx7 0
          have f0 := blk_frozen hx7 0
          have c1 := blk_cell hx7 1
          have f1 := blk_frozen hx7 1
          have c2 := blk_cell hx7 2
          have f2 := blk_frozen hx7 2
          have c3 := blk_cell hx7 3
          have f3 := blk_frozen hx7 3
          have c4 := blk_cell hx7 4
          have f4 := blk_frozen hx7 4
          have c5 := blk_cell hx7 5
          have f5 := blk_frozen hx7 5
          have c6 := blk_cell hx7 6
          have f6 := blk_frozen hx7 6
          have c7 := blk_cell hx7 7
          have f7 := blk_frozen hx7 7
          simp only [List.getElem?_toArray, List.getElem?_cons_zero, List.getElem?_cons_succ] at c0 c1 c2 c3 c4 c5 c6 c7
          go_wp2
          exact bodyPost_ret (v := .tuple #[b.val, .bool (false)]) (by simp [results, Tryz.results40, go_sem, c0, c1, c2, c3, c4, c5, c6, c7, f0, f1, f2, f3, f4, f5, f6, f7, Bk.val]) rfl ⟨ret_bk HR.out.1.symm HK.out.symm, HB8.out⟩
        · have HK := Aside0.mk (show bkK l = ((bS (bkT b)).toList == (bS l).toList) by rw [HR.out.2, hv, bS_list, bS_list]; rfl)
          have HVT := Aside0.mk (fun (p : World) (hp : Below w.heap.size w p) => bookText_c b (vB1 hv) p (HT0.out.tab.below hp))
          rw [hv] at HVB
          simp only [Bk.val] at HVB HVT
          clear hv
          refine region_HO (G := KG w g8) 10 (by kernel_rfl) (by kernel_rfl) ?_
          generalize (put8 W g8 b).drew = W5 at hy5 HX5 HB5 ⊢
          refine HO_take hKG (i := 0) (v := ?_) rfl (by kernel_rfl) (by kernel_rfl) (by kernel_rfl) (by decide) (fun _ _ _ h => h) (fun b' hb' => Or.inl ⟨by kernel_rfl, fun W hW => ?_⟩) ?_
          rotate_left
          · have hyW := blk_below (hb'.1 _ hy5) hW
            have HBW := Aside0.mk (bstep (hb'.2 HB5.out) hW)
            have q0 := blk_cell hyW 0
            have q1 := blk_cell hyW 1
            have q2 := blk_cell hyW 2
            have q3 := blk_cell hyW 3
            have q4 := blk_cell hyW 4
            have q5 := blk_cell hyW 5
            have q6 := blk_cell hyW 6
            have q7 := blk_cell hyW 7
            simp only [List.getElem?_toArray, List.getElem?_cons_zero, List.getElem?_cons_succ] at q0 q1 q2 q3 q4 q5 q6 q7
            go_simp
            with_reducible rfl
          refine HO_take hKG (i := 1) (v := ?_) rfl (by kernel_rfl) (by kernel_rfl) (by kernel_rfl) (by decide) (fun _ _ _ h => h) (fun b' hb' => Or.inl ⟨by kernel_rfl, fun W hW => ?_⟩) ?_
          rotate_left
          · have hyW := blk_below (hb'.1 _ hy5) hW
            have HBW := Aside0.mk (bstep (hb'.2 HB5.out) hW)
            have q0 := blk_cell hyW 0
            have q1 := blk_cell hyW 1
            have q2 := blk_cell hyW 2
            have q3 := blk_cell hyW 3
            have q4 := blk_cell hyW 4
            have q5 := blk_cell hyW 5
            have q6 := blk_cell hyW 6
            have q7 := blk_cell hyW 7
            simp only [List.getElem?_toArray, List.getElem?_cons_zero, List.getElem?_cons_succ] at q0 q1 q2 q3 q4 q5 q6 q7
            go_simp
            with_reducible rfl
          refine HO_take hKG (i := 2) (v := .bool true) rfl (by kernel_rfl) (by kernel_rfl) (by kernel_rfl) (by decide) (fun _ _ _ h => h) (fun b' hb' => Or.inl ⟨by kernel_rfl, fun W hW => ?_⟩) ?_
          · have hyW := blk_below (hb'.1 _ hy5) hW
            have HBW := Aside0.mk (bstep (hb'.2 HB5.out) hW)
            have q0 := blk_cell hyW 0
            have q1 := blk_cell hyW 1
            have q2 := blk_cell hyW 2
            have q3 := blk_cell hyW 3
            have q4 := blk_cell hyW 4
            have q5 := blk_cell hyW 5
            have q6 := blk_cell hyW 6
            have q7 := blk_cell hyW 7
            simp only [List.getElem?_toArray, List.getElem?_cons_zero, List.getElem?_cons_succ] at q0 q1 q2 q3 q4 q5 q6 q7
            go_simp
            exact (HVB.out W).mono (fun _ _ h => ⟨h.1, hW.step h.2⟩)
          refine HO_take hKG (i := 3) (v := ?_) rfl (by kernel_rfl) (by kernel_rfl) (by kernel_rfl) (by decide) (fun _ _ _ h => h) (fun b' hb' => Or.inl ⟨by kernel_rfl, fun W hW => ?_⟩) ?_
          rotate_left
          · have hyW := blk_below (hb'.1 _ hy5) hW
            have HBW := Aside0.mk (bstep (hb'.2 HB5.out) hW)
            have q0 := blk_cell hyW 0
            have q1 := blk_cell hyW 1
            have q2 := blk_cell hyW 2
            have q3 := blk_cell hyW 3
            have q4 := blk_cell hyW 4
            have q5 := blk_cell hyW 5
            have q6 := blk_cell hyW 6
            have q7 := blk_cell hyW 7
            simp only [List.getElem?_toArray, List.getElem?_cons_zero, List.getElem?_cons_succ] at q0 q1 q2 q3 q4 q5 q6 q7
            go_simp
            with_reducible rfl
          refine HO_take hKG (i := 4) (v := ?_) rfl (by kernel_rfl) (by kernel_rfl) (by kernel_rfl) (by decide) (fun _ _ _ h => h) (fun b' hb' => Or.inl ⟨by kernel_rfl, fun W hW => ?_⟩) ?_
          rotate_left
          · have hyW := blk_below (hb'.1 _ hy5) hW
            have HBW := Aside0.mk (bstep (hb'.2 HB5.out) hW)
            have q0 := blk_cell hyW 0
            have q1 := blk_cell hyW 1
            have q2 := blk_cell hyW 2
            have q3 := blk_cell hyW 3
            have q4 := blk_cell hyW 4
            have q5 := blk_cell hyW 5
            have q6 := blk_cell hyW 6
            have q7 := blk_cell hyW 7
            simp only [List.getElem?_toArray, List.getElem?_cons_zero, List.getElem?_cons_succ] at q0 q1 q2 q3 q4 q5 q6 q7
            go_simp
            with_reducible rfl
          refine HO_take hKG (i := 5) (v := .string (bS (bkT b))) rfl (by kernel_rfl) (by kernel_rfl) (by kernel_rfl) (by decide) (fun _ _ _ h => h) (fun b' hb' => Or.inl ⟨by kernel_rfl, fun W hW => ?_⟩) ?_
          · have hyW := blk_below (hb'.1 _ hy5) hW
            have HBW := Aside0.mk (bstep (hb'.2 HB5.out) hW)
            have q0 := blk_cell hyW 0
            have q1 := blk_cell hyW 1
            have q2 := blk_cell hyW 2
            have q3 := blk_cell hyW 3
            have q4 := blk_cell hyW 4
            have q5 := blk_cell hyW 5
            have q6 := blk_cell hyW 6
            have q7 := blk_cell hyW 7
            simp only [List.getElem?_toArray, List.getElem?_cons_zero, List.getElem?_cons_succ] at q0 q1 q2 q3 q4 q5 q6 q7
            go_simp
            exact (HVT.out W HBW.out).mono (fun _ _ h => ⟨h.1, hW.step h.2⟩)
          refine HO_take hKG (i := 6) (v := ?_) rfl (by kernel_rfl) (by kernel_rfl) (by kernel_rfl) (by decide) (fun _ _ _ h => h) (fun b' hb' => Or.inl ⟨by kernel_rfl, fun W hW => ?_⟩) ?_
          rotate_left
          · have hyW := blk_below (hb'.1 _ hy5) hW
            have HBW := Aside0.mk (bstep (hb'.2 HB5.out) hW)
            have q0 := blk_cell hyW 0
            have q1 := blk_cell hyW 1
            have q2 := blk_cell hyW 2
            have q3 := blk_cell hyW 3
            have q4 := blk_cell hyW 4
            have q5 := blk_cell hyW 5
            have q6 := blk_cell hyW 6
            have q7 := blk_cell hyW 7
            simp only [List.getElem?_toArray, List.getElem?_cons_zero, List.getElem?_cons_succ] at q0 q1 q2 q3 q4 q5 q6 q7
            go_simp
            with_reducible rfl
          refine HO_take hKG (i := 7) (v := ?_) rfl (by kernel_rfl) (by kernel_rfl) (by kernel_rfl) (by decide) (fun _ _ _ h => h) (fun b' hb' => Or.inl ⟨by kernel_rfl, fun W hW => ?_⟩) ?_
          rotate_left
          · have hyW := blk_below (hb'.1 _ hy5) hW
            have HBW := Aside0.mk (bstep (hb'.2 HB5.out) hW)
            have q0 := blk_cell hyW 0
            have q1 := blk_cell hyW 1
            have q2 := blk_cell hyW 2
            have q3 := blk_cell hyW 3
            have q4 := blk_cell hyW 4
            have q5 := blk_cell hyW 5
            have q6 := blk_cell hyW 6
            have q7 := blk_cell hyW 7
            simp only [List.getElem?_toArray, List.getElem?_cons_zero, List.getElem?_cons_succ] at q0 q1 q2 q3 q4 q5 q6 q7
            go_simp
            with_reducible rfl
          refine HO_take hKG (i := 8) (v := ?_) rfl (by kernel_rfl) (by kernel_rfl) (by kernel_rfl) (by decide) (fun _ _ _ h => h) (fun b' hb' => Or.inl ⟨by kernel_rfl, fun W hW => ?_⟩) ?_
          rotate_left
          · have hyW := blk_below (hb'.1 _ hy5) hW
            have HBW := Aside0.mk (bstep (hb'.2 HB5.out) hW)
            have q0 := blk_cell hyW 0
            have q1 := blk_cell hyW 1
            have q2 := blk_cell hyW 2
            have q3 := blk_cell hyW 3
            have q4 := blk_cell hyW 4
            have q5 := blk_cell hyW 5
            have q6 := blk_cell hyW 6
            have q7 := blk_cell hyW 7
            simp only [List.getElem?_toArray, List.getElem?_cons_zero, List.getElem?_cons_succ] at q0 q1 q2 q3 q4 q5 q6 q7
            go_simp
            with_reducible rfl
          refine HO_step (i := 9) rfl (by kernel_rfl) (by decide) (by kernel_rfl) (fun W hW K hK => ?_)
          have hx6 := blk_below HX5.out hW
          have hy6 := blk_below hy5 hW
          have HB6 := Aside0.mk (bstep HB5.out hW)
          have c0 := blk_cell hx6 0
          have f0 := blk_frozen hx6 0
          have c1 := blk_cell hx6 1
          have f1 := blk_frozen hx6 1
          have c2 := blk_cell hx6 2
          have f2 := blk_frozen hx6 2
          have c3 := blk_cell hx6 3
          have f3 := blk_frozen hx6 3
          have c4 := blk_cell hx6 4
          have f4 := blk_frozen hx6 4
          have c5 := blk_cell hx6 5
          have f5 := blk_frozen hx6 5
          have c6 := blk_cell hx6 6
          have f6 := blk_frozen hx6 6
          have c7 := blk_cell hx6 7
          have f7 := blk_frozen hx6 7
          simp only [List.getElem?_toArray, List.getElem?_cons_zero, List.getElem?_cons_succ] at c0 c1 c2 c3 c4 c5 c6 c7
          go_simp
          refine hK _ (put8 W w.heap.size b) ⟨fun o ho => ?_, fun hb => put8_below b hb (Nat.le_refl _)⟩ ?_
          · rw [hy6] at ho
            rw [← Option.some.inj ho]
            exact put8_far b hy6 (Nat.ne_of_gt hgt.out)
          clear hK K
          have hz6 := put8_blk b hx6
          have HB7 := Aside0.mk (put8_below b HB6.out (Nat.le_refl _))
          clear HB6 hx6 hy6 c0 c1 c2 c3 c4 c5 c6 c7 f0 f1 f2 f3 f4 f5 f6 f7 hW
          generalize put8 W w.heap.size b = W6 at hz6 HB7 ⊢
          refine HO_end (by kernel_rfl) (fun W7 hW7 => ?_)
          have hx7 := blk_below hz6 hW7
          have HB8 := Aside0.mk (bstep HB7.out hW7)
          have c0 := blk_cell hx7 0
          have f0 := blk_frozen hx7 0
          have c1 := blk_cell hx7 1
          have f1 := blk_frozen hx7 1
          have c2 := blk_cell hx7 2
          have f2 := blk_frozen hx7 2
          have c3 := blk_cell hx7 3
          have f3 := blk_frozen hx7 3
          have c4 := blk_cell hx7 4
          have f4 := blk_frozen hx7 4
          have c5 := blk_cell hx7 5
          have f5 := blk_frozen hx7 5
          have c6 := blk_cell hx7 6
          have f6 := blk_frozen hx7 6
          have c7 := blk_cell hx7 7
          have f7 := blk_frozen hx7 7
          simp only [List.getElem?_toArray, List.getElem?_cons_zero, List.getElem?_cons_succ] at c0 c1 c2 c3 c4 c5 c6 c7
          go_wp2
          exact bodyPost_ret (v := .tuple #[b.val, .bool (((bS (bkT b)).toList == (bS l).toList))]) (by simp [results, Tryz.results40, go_sem, c0, c1, c2, c3, c4, c5, c6, c7, f0, f1, f2, f3, f4, f5, f6, f7, Bk.val]) rfl ⟨ret_bk HR.out.1.symm HK.out.symm, HB8.out⟩
    · have HN := Aside0.mk (show rbV l = Bk0 ∧ bkK l = false from ⟨rb_n3 hws h3, (bk_no (rd_none3 hws h3)).2⟩)
      rw [hws] at HS HML
      have e3 : ((((bS a1).size : Nat) : Int) != 3) = true := by rw [bS_size]; simp; omega
      have e5 : (((([a0, a1, a2, a3, a4] : List Bs).length : Nat) : Int) != 5) = false := rfl
      clear hws h3
      go_enter Tryz.func40, Tryz.ntmps40
      go_wp2_with fail
      generalize World.alloc w _ = W1 at hbx hb0 HT ⊢
      refine (HS.out _ HT.out).mono ?_; rintro _ w1 ⟨_, rfl, hb1, A1, c1, rfl, hc1, hC1⟩
      have HB1 := Aside0.mk (bstep hb0 hb1)
      have hx1 := blk_below hbx hb1
      obtain ⟨ad, rfl, d0, d1, d2, d3, d4⟩ := at5 hC1
      clear hb1 hC1 hbx HT
      have c0 := blk_cell hx1 0
      have f0 := blk_frozen hx1 0
      have c1 := blk_cell hx1 1
      have f1 := blk_frozen hx1 1
      have c2 := blk_cell hx1 2
      have f2 := blk_frozen hx1 2
      have c3 := blk_cell hx1 3
      have f3 := blk_frozen hx1 3
      have c4 := blk_cell hx1 4
      have f4 := blk_frozen hx1 4
      have c5 := blk_cell hx1 5
      have f5 := blk_frozen hx1 5
      have c6 := blk_cell hx1 6
      have f6 := blk_frozen hx1 6
      have c7 := blk_cell hx1 7
      have f7 := blk_frozen hx1 7
      simp only [List.getElem?_toArray, List.getElem?_cons_zero, List.getElem?_cons_succ] at c0 c1 c2 c3 c4 c5 c6 c7
      go_wp2
      refine bodyPost_ret (v := .tuple #[Bk0.val, .bool false]) (by simp [results, Tryz.results40, go_sem, c0, c1, c2, c3, c4, c5, c6, c7, f0, f1, f2, f3, f4, f5, f6, f7, Bk.val]) rfl ⟨ret_bk HN.out.1.symm HN.out.2.symm, ?_⟩
      repeat (refine Below.setCell ?_ (by simp) _)
      exact HB1.out
  · have HN := Aside0.mk (show rbV l = Bk0 ∧ bkK l = false from ⟨rb_n hn, (bk_no (rd_none hn)).2⟩)
    have hn' : (((splitL 32 l).length : Int) != 5) = true := by simp; omega
    clear hn
    generalize splitL 32 l = ws at HS HML hn'
    go_enter Tryz.func40, Tryz.ntmps40
    go_wp2_with fail
    generalize World.alloc w _ = W1 at hbx hb0 HT ⊢
    refine (HS.out _ HT.out).mono ?_; rintro _ w1 ⟨_, rfl, hb1, A1, c1_, rfl, hc1, hC1⟩
    have HB1 := Aside0.mk (bstep hb0 hb1)
    have hx1 := blk_below hbx hb1
    clear hb1 hC1 hbx HT
    have c0 := blk_cell hx1 0
    have f0 := blk_frozen hx1 0
    have c1 := blk_cell hx1 1
    have f1 := blk_frozen hx1 1
    have c2 := blk_cell hx1 2
    have f2 := blk_frozen hx1 2
    have c3 := blk_cell hx1 3
    have f3 := blk_frozen hx1 3
    have c4 := blk_cell hx1 4
    have f4 := blk_frozen hx1 4
    have c5 := blk_cell hx1 5
    have f5 := blk_frozen hx1 5
    have c6 := blk_cell hx1 6
    have f6 := blk_frozen hx1 6
    have c7 := blk_cell hx1 7
    have f7 := blk_frozen hx1 7
    simp only [List.getElem?_toArray, List.getElem?_cons_zero, List.getElem?_cons_succ] at c0 c1 c2 c3 c4 c5 c6 c7
    go_wp2
    refine bodyPost_ret (v := .tuple #[Bk0.val, .bool false]) (by simp [results, Tryz.results40, go_sem, c0, c1, c2, c3, c4, c5, c6, c7, f0, f1, f2, f3, f4, f5, f6, f7, Bk.val]) rfl ⟨ret_bk HN.out.1.symm HN.out.2.symm, ?_⟩
    repeat (refine Below.setCell ?_ (by simp) _)
    exact HB1.out
end Go.Proofs.YtkoaangakmpggaaGreatDoor
end
section
/- ReadBook of both. -/
namespace Go.Proofs.YtkoaangakmpggaaGreatDoor
open Go.RowKit Go.Proofs.YtkoaangakmpggaaGreatDoorW.PrintWords Go.Proofs.YtkoaangakmpggaaGreatDoorW.PrintMore
set_option linter.unusedVariables false
set_option linter.unusedSimpArgs false
set_option maxRecDepth 100000

noncomputable def bkE (l : Bs) : Int := if bkK l = true then 0 else 5
theorem bk_zero {l : Bs} (h : bkK l = false) : bkV l = Bk0 := by
  by_cases hx : ∃ b, RdB l b
  · obtain ⟨b, hb⟩ := hx
    rw [(bk_ok hb).2] at h
    cases h
  · exact (bk_no (fun b hb => hx ⟨b, hb⟩)).1
theorem ret_bkE {a b : Bk} {c d : Int} (h : a = b) (k : c = d) : Ending.returned (.tuple #[a.val, .int .i64 c]) = .returned (.tuple #[b.val, .int .i64 d]) := by rw [h, k]
end Go.Proofs.YtkoaangakmpggaaGreatDoor
end
section
/- ReadBook: the reference's. -/
namespace Go.Proofs.YtkoaangakmpggaaGreatDoor
open Go.RowKit Go.Proofs.YtkoaangakmpggaaGreatDoorW.PrintWords Go.Proofs.YtkoaangakmpggaaGreatDoorW.PrintMore
set_option linter.unusedVariables false
set_option linter.unusedSimpArgs false
set_option maxRecDepth 100000

def gdT (t : Bs) : Prop := nmK t = true ∧ nmV t ≤ 9999
theorem gd_dg {n : Int} (h0 : 0 ≤ n) (h1 : n ≤ 9999) : gdT (dg n) ∧ nmV (dg n) = n := by
  obtain ⟨h2, h3⟩ := nm_some (numL_dg h0 (by omega))
  have : nmV (dg n) = n := by rw [h2]; omega
  exact ⟨⟨h3, by rw [this]; exact h1⟩, this⟩
theorem rs_two {l w0 w2 w3 w4 : Bs} {x y z : UInt8} (h : splitL 32 l = [w0, [x, y, z], w2, w3, w4]) (hn : (splitL 120 w3).length ≠ 2) (b : Bk) : ¬ RdB l b := fun hr => by
  have := (rd_spec_words h hr).1
  rw [this] at hn
  exact hn rfl
theorem rs_words {l w0 w2 w3 w4 p q : Bs} {x y z : UInt8} (h : splitL 32 l = [w0, [x, y, z], w2, w3, w4]) (h3 : splitL 120 w3 = [p, q]) {b : Bk} (hr : RdB l b) :
    (∀ t ∈ [w0, w2, p, q, w4], gdT t) ∧ b = ⟨nmV w0, x.toNat, y.toNat, z.toNat, nmV w2, nmV p, nmV q, nmV w4⟩ := by
  obtain ⟨e3, e0, e2, e4, ex, ey, ez⟩ := rd_spec_words h hr
  rw [h3] at e3
  simp only [List.cons.injEq, and_true] at e3
  obtain ⟨rfl, rfl⟩ := e3
  have hv := vB1 hr.1
  have k0 := gd_dg (n := b.c) hv.c.1 (by have := hv.c.2; omega)
  have k1 := gd_dg (n := b.v) (by have := hv.v; omega) (by have := hv.v; omega)
  have k2 := gd_dg (n := b.wd) (by have := hv.wd; omega) (by have := hv.wd; omega)
  have k3 := gd_dg (n := b.h) (by have := hv.h; omega) (by have := hv.h; omega)
  have k4 := gd_dg (n := b.wt) (by have := hv.wt; omega) (by have := hv.wt; omega)
  subst e0 e2 e4
  refine ⟨?_, ?_⟩
  · intro t ht
    simp only [List.mem_cons, List.mem_nil_iff, or_false] at ht
    rcases ht with rfl | rfl | rfl | rfl | rfl
    · exact k0.1
    · exact k1.1
    · exact k2.1
    · exact k3.1
    · exact k4.1
  · rw [k0.2, k1.2, k2.2, k3.2, k4.2, ex, ey, ez, u8_back hv.m0, u8_back hv.m1, u8_back hv.m2]
theorem rs_num {t : Bs} (h : nmK t = true) : ∃ n, numL t = some n ∧ nmV t = n := by
  unfold nmK at h
  obtain ⟨n, hn⟩ := Option.isSome_iff_exists.1 h
  exact ⟨n, hn, (nm_some hn).1⟩
theorem rs_case {l w0 w2 w3 w4 p q : Bs} {x y z : UInt8} (h : splitL 32 l = [w0, [x, y, z], w2, w3, w4]) (h3 : splitL 120 w3 = [p, q]) (hg : ∀ t ∈ [w0, w2, p, q, w4], gdT t) :
    (vBook ⟨nmV w0, x.toNat, y.toNat, z.toNat, nmV w2, nmV p, nmV q, nmV w4⟩ = true → bkV l = ⟨nmV w0, x.toNat, y.toNat, z.toNat, nmV w2, nmV p, nmV q, nmV w4⟩ ∧ bkK l = true) ∧
    (vBook ⟨nmV w0, x.toNat, y.toNat, z.toNat, nmV w2, nmV p, nmV q, nmV w4⟩ = false → bkV l = Bk0 ∧ bkK l = false) := by
  obtain ⟨n0, m0, e0⟩ := rs_num (hg w0 (by simp)).1
  obtain ⟨n1, m1, e1⟩ := rs_num (hg w2 (by simp)).1
  obtain ⟨n2, m2, e2⟩ := rs_num (hg p (by simp)).1
  obtain ⟨n3, m3, e3⟩ := rs_num (hg q (by simp)).1
  obtain ⟨n4, m4, e4⟩ := rs_num (hg w4 (by simp)).1
  have ht := rd_spec h h3 m0 m1 m2 m3 m4
  rw [e0, e1, e2, e3, e4]
  refine ⟨fun hv => bk_ok ⟨hv, ht⟩, fun hv => bk_no (fun b hb => ?_)⟩
  have := (rs_words h h3 hb).2
  rw [e0, e1, e2, e3, e4] at this
  rw [← this, hb.1] at hv
  cases hv
theorem at2 {a0 a1 : Bs} {w : World} {A : Option Addr} (h : Kd.string.C w A 2 ([a0, a1].map bS)) :
    ∃ ad, A = some ad ∧ w.cell? ad = some (.string (bS a0)) ∧ w.cell? ⟨ad.block, ad.off + 1, none⟩ = some (.string (bS a1)) := by
  obtain ⟨ad, x0, rfl, h0, e0⟩ := at_str (ws := [a0, a1]) h 0 (by decide) rfl
  obtain ⟨d1, x1, k1, h1, e1⟩ := at_str (ws := [a0, a1]) h 1 (by decide) rfl
  cases k1
  have h0 := h0.out; have h1 := h1.out
  cases h0; cases h1
  exact ⟨ad, rfl, e0, e1⟩
theorem two {α : Type} {l : List α} (h : l.length = 2) : ∃ a0 a1, l = [a0, a1] := by
  match l, h with
  | [a0, a1], _ => exact ⟨a0, a1, rfl⟩
def nmCs (ts : List Bs) (k : Nat) : Array Value := ((ts.take k).map (fun t => Value.int .i64 (nmV t)) ++ List.replicate (ts.length - k) (Value.int .i64 0)).toArray
theorem nmCs_set {ts : List Bs} {k : Nat} {x : Bs} (h : ts[k]? = some x) : (nmCs ts k).setIfInBounds k (.int .i64 (nmV x)) = nmCs ts (k + 1) := by
  have hk := (List.getElem?_eq_some_iff.1 h).1
  unfold nmCs
  rw [List.setIfInBounds_toArray]
  congr 1
  have hl : ((ts.take k).map (fun t => Value.int .i64 (nmV t))).length = k := by rw [List.length_map, List.length_take]; omega
  rw [take_snoc h, List.map_append, List.set_append_right _ _ (by omega), hl, Nat.sub_self]
  obtain ⟨m, hm⟩ : ∃ m, ts.length - k = m + 1 := ⟨ts.length - k - 1, by omega⟩
  rw [hm, List.replicate_succ, List.set_cons_zero, show ts.length - (k + 1) = m by omega, List.append_assoc]
  rfl
theorem nmCs_at {ts : List Bs} {k : Nat} {x : Bs} (h : ts[k]? = some x) : (nmCs ts k)[k]? = some (.int .i64 0) := by
  have hk := (List.getElem?_eq_some_iff.1 h).1
  unfold nmCs
  have hl : ((ts.take k).map (fun t => Value.int .i64 (nmV t))).length = k := by rw [List.length_map, List.length_take]; omega
  rw [List.getElem?_toArray, List.getElem?_append_right (by omega), hl, Nat.sub_self, List.getElem?_replicate, if_pos (by omega)]
theorem gdT_i {t : Bs} (h : gdT t) : (0 ≤ nmV t ∧ nmV t ≤ 9999) ∧ IntKind.i16.wrap (nmV t) = nmV t := by
  have h0 : 0 ≤ nmV t := by unfold nmV; omega
  exact ⟨⟨h0, h.2⟩, i16_low ⟨h0, by have := h.2; omega⟩⟩
/-- Five texts stored over a row. -/
def put5 (W : World) (g : Nat) (a b c d e : Bs) : World := ((((W.setCell ⟨g, 0, none⟩ (.string (bS a))).setCell ⟨g, 1, none⟩ (.string (bS b))).setCell ⟨g, 2, none⟩ (.string (bS c))).setCell ⟨g, 3, none⟩ (.string (bS d))).setCell ⟨g, 4, none⟩ (.string (bS e))
def strCs (ts : List Bs) : Array Value := (ts.map (fun t => Value.string (bS t))).toArray
theorem put5_blk {W : World} {g : Nat} {t : TypeId} {z0 z1 z2 z3 z4 : Value} (a b c d e : Bs) (h : W.heap[g]? = some (.cells #[z0, z1, z2, z3, z4] t (0, 0))) : (put5 W g a b c d e).heap[g]? = some (.cells (strCs [a, b, c, d, e]) t (0, 0)) := by
  unfold put5
  have h7 := blk_set (blk_set (blk_set (blk_set (blk_set h 0 (.string (bS a))) 1 (.string (bS b))) 2 (.string (bS c))) 3 (.string (bS d))) 4 (.string (bS e))
  simpa only [List.setIfInBounds_toArray, List.set_cons_zero, List.set_cons_succ, strCs, List.map_cons, List.map_nil] using h7
theorem put5_below {w0 W : World} {n g : Nat} (a b c d e : Bs) (h : Below n w0 W) (hg : n ≤ g) : Below n w0 (put5 W g a b c d e) := by
  unfold put5
  exact Below.setCell (Below.setCell (Below.setCell (Below.setCell (Below.setCell h (p := ⟨g, 0, none⟩) hg _) (p := ⟨g, 1, none⟩) hg _) (p := ⟨g, 2, none⟩) hg _) (p := ⟨g, 3, none⟩) hg _) (p := ⟨g, 4, none⟩) hg _
theorem strCs_at {ts : List Bs} {k : Nat} {x : Bs} (h : ts[k]? = some x) : (strCs ts)[k]? = some (.string (bS x)) := by
  unfold strCs
  rw [List.getElem?_toArray, List.getElem?_map, h]
  rfl
/-- A mark stored over a book's. -/
def put3m (W : World) (g : Nat) (x y z : UInt8) : World := ((W.setCell ⟨g, 1, none⟩ (.int .u8 x.toNat)).setCell ⟨g, 2, none⟩ (.int .u8 y.toNat)).setCell ⟨g, 3, none⟩ (.int .u8 z.toNat)
theorem put3m_blk {W : World} {g : Nat} {t : TypeId} {z0 z1 z2 z3 z4 z5 z6 z7 : Value} (x y z : UInt8) (h : W.heap[g]? = some (.cells #[z0, z1, z2, z3, z4, z5, z6, z7] t (0, 0))) :
    (put3m W g x y z).heap[g]? = some (.cells #[z0, .int .u8 x.toNat, .int .u8 y.toNat, .int .u8 z.toNat, z4, z5, z6, z7] t (0, 0)) := by
  unfold put3m
  have h7 := blk_set (blk_set (blk_set h 1 (.int .u8 x.toNat)) 2 (.int .u8 y.toNat)) 3 (.int .u8 z.toNat)
  simpa only [List.setIfInBounds_toArray, List.set_cons_zero, List.set_cons_succ] using h7
theorem put3m_far {W : World} {g g' : Nat} {t : TypeId} {cs : Array Value} (x y z : UInt8) (h : W.heap[g']? = some (.cells cs t (0, 0))) (hg : g' ≠ g) : (put3m W g x y z).heap[g']? = some (.cells cs t (0, 0)) :=
  blk_far (blk_far (blk_far h (p := ⟨g, 1, none⟩) hg _) (p := ⟨g, 2, none⟩) hg _) (p := ⟨g, 3, none⟩) hg _
theorem put3m_below {w W : World} {g : Nat} (x y z : UInt8) (h : Below w.heap.size w W) (hg : w.heap.size ≤ g) : Below w.heap.size w (put3m W g x y z) := by
  unfold put3m
  exact Below.setCell (Below.setCell (Below.setCell h (p := ⟨g, 1, none⟩) hg _) (p := ⟨g, 2, none⟩) hg _) (p := ⟨g, 3, none⟩) hg _
end Go.Proofs.YtkoaangakmpggaaGreatDoor
end
section
/- Texts of lists of books, in plain Lean: lines. -/
namespace Go.Proofs.YtkoaangakmpggaaGreatDoor
open Go.RowKit Go.Proofs.YtkoaangakmpggaaGreatDoorW.PrintWords Go.Proofs.YtkoaangakmpggaaGreatDoorW.PrintMore
set_option linter.unusedVariables false
set_option linter.unusedSimpArgs false
set_option maxRecDepth 100000

/-- Lines, each ended by a newline. -/
def lnT : List Bs → Bs
  | [] => []
  | w :: r => w ++ 10 :: lnT r
theorem lnT_append (a b : List Bs) : lnT (a ++ b) = lnT a ++ lnT b := by
  induction a with
  | nil => rfl
  | cons w r ih => simp [lnT, ih]
theorem lnT_snoc (a : List Bs) (w : Bs) : lnT (a ++ [w]) = lnT a ++ (w ++ [10]) := by rw [lnT_append]; simp [lnT]
/-- Each text is lines, and a rest. -/
theorem lines_of : ∀ l : Bs, ∃ (ws : List Bs) (a : Bs), l = lnT ws ++ a ∧ (10 : UInt8) ∉ a ∧ (∀ w, w ∈ ws → (10 : UInt8) ∉ w) ∧ splitL 10 l = ws ++ [a] ∧ l.count 10 = ws.length
  | [] => ⟨[], [], rfl, by simp, by simp, rfl, rfl⟩
  | x :: l => by
    obtain ⟨ws, a, h1, h2, h3, h4, h5⟩ := lines_of l
    by_cases hx : x = 10
    · subst hx
      refine ⟨[] :: ws, a, by rw [h1]; rfl, h2, ?_, ?_, ?_⟩
      · intro w hw
        rcases List.mem_cons.1 hw with rfl | hw
        · simp
        · exact h3 w hw
      · rw [splitL, if_pos rfl, h4]; rfl
      · rw [List.count_cons_self, h5]; rfl
    · cases ws with
      | nil =>
        refine ⟨[], x :: a, by rw [h1]; rfl, ?_, by simp, ?_, ?_⟩
        · intro hm
          rcases List.mem_cons.1 hm with e | hm
          · exact hx e.symm
          · exact h2 hm
        · rw [splitL, if_neg hx, h4]; rfl
        · rw [List.count_cons_of_ne hx, h5]
      | cons w r =>
        refine ⟨(x :: w) :: r, a, by rw [h1]; rfl, h2, ?_, ?_, ?_⟩
        · intro v hv
          rcases List.mem_cons.1 hv with rfl | hv
          · intro hm
            rcases List.mem_cons.1 hm with e | hm
            · exact hx e.symm
            · exact h3 w (by simp) hm
          · exact h3 v (by simp [hv])
        · rw [splitL, if_neg hx, h4]; rfl
        · rw [List.count_cons_of_ne hx, h5]; rfl
theorem lnT_split {ws : List Bs} (h : ∀ w, w ∈ ws → (10 : UInt8) ∉ w) : splitL 10 (lnT ws) = ws ++ [[]] := by
  induction ws with
  | nil => rfl
  | cons w r ih => rw [lnT, splitL_cons _ (h w (by simp)), ih (fun v hv => h v (by simp [hv]))]; rfl
theorem bkT_no {b : Bk} (h : VB1 b) : (10 : UInt8) ∉ bkT b := by
  rw [bkT_eq]
  simp only [List.mem_append, List.mem_singleton, not_or]
  have hk : (10 : UInt8) ∉ mkB b := fun hm => absurd (mkB_small h hm).1 (by decide)
  repeat' apply And.intro
  all_goals first | exact not_dig (by decide) | exact hk | decide
/-- The text of a list. -/
def lsT (L : List Bk) : Bs := lnT (L.map bkT)
/-- A text is that of a list. -/
def RdLs (l : Bs) (L : List Bk) : Prop := L.length ≤ 60 ∧ (∀ b, b ∈ L → vBook b = true) ∧ splitL 10 l = L.map bkT ++ [[]]
theorem map_bkT_inj : ∀ {L M : List Bk}, (∀ b, b ∈ L → vBook b = true) → (∀ b, b ∈ M → vBook b = true) → L.map bkT = M.map bkT → L = M
  | [], [], _, _, _ => rfl
  | [], _ :: _, _, _, h => by cases h
  | _ :: _, [], _, _, h => by cases h
  | a :: L, b :: M, h1, h2, h => by
    simp only [List.map_cons, List.cons.injEq] at h
    rw [RdB.unique (l := bkT b) ⟨h1 a (by simp), h.1⟩ ⟨h2 b (by simp), rfl⟩, map_bkT_inj (fun x hx => h1 x (by simp [hx])) (fun x hx => h2 x (by simp [hx])) h.2]
theorem RdLs.unique {l : Bs} {L M : List Bk} (h : RdLs l L) (k : RdLs l M) : L = M := map_bkT_inj h.2.1 k.2.1 (List.append_cancel_right (h.2.2.symm.trans k.2.2))
theorem rdLs_self {L : List Bk} (hn : L.length ≤ 60) (h : ∀ b, b ∈ L → vBook b = true) : RdLs (lsT L) L :=
  ⟨hn, h, lnT_split (fun w hw => by obtain ⟨b, hb, rfl⟩ := List.mem_map.1 hw; exact bkT_no (vB1 (h b hb)))⟩
/-- How a list is read. -/
def LsR (l : Bs) (L : List Bk) (n err : Int) : Prop := (n = 0 ∧ RdLs l L) ∨ (n = err ∧ L = [] ∧ ∀ M, ¬ RdLs l M)
theorem LsR.unique {l : Bs} {L M : List Bk} {n m err : Int} (h : LsR l L n err) (h' : LsR l M m err) : L = M ∧ n = m := by
  rcases h with ⟨h1, h2⟩ | ⟨h1, h2, h3⟩ <;> rcases h' with ⟨k1, k2⟩ | ⟨k1, k2, k3⟩
  · exact ⟨h2.unique k2, by rw [h1, k1]⟩
  · exact absurd h2 (k3 _)
  · exact absurd k2 (h3 _)
  · exact ⟨by rw [h2, k2], by rw [h1, k1]⟩
theorem ls_ok {l : Bs} {L : List Bk} (h : splitL 10 l = L.map bkT ++ [[]]) (hn : L.length ≤ 60) (hv : ∀ b, b ∈ L → vBook b = true) (err : Int) : LsR l L 0 err := .inl ⟨rfl, hn, hv, h⟩
theorem ls_bad {l : Bs} {ws : List Bs} {a : Bs} (h : splitL 10 l = ws ++ [a]) (h' : a ≠ [] ∨ 60 < ws.length ∨ ∃ w, w ∈ ws ∧ ∀ b, ¬ RdB w b) (err : Int) : LsR l [] err err := by
  refine .inr ⟨rfl, rfl, fun M hM => ?_⟩
  obtain ⟨h1, h2, h3⟩ := hM
  rw [h] at h3
  obtain ⟨e1, e2⟩ := List.append_inj' h3 rfl
  simp only [List.cons.injEq, and_true] at e2
  rcases h' with h' | h' | ⟨w, hw, hb⟩
  · exact h' e2
  · rw [e1, List.length_map] at h'
    omega
  · rw [e1] at hw
    obtain ⟨b, hb1, hb2⟩ := List.mem_map.1 hw
    exact hb b ⟨h2 b hb1, hb2⟩
theorem lnT_len {k : Nat} : ∀ {ws : List Bs}, (∀ w, w ∈ ws → w.length ≤ k) → (lnT ws).length ≤ (k + 1) * ws.length
  | [], _ => by simp [lnT]
  | w :: r, h => by
    have h1 := h w (by simp)
    have h2 := lnT_len (k := k) (ws := r) (fun v hv => h v (by simp [hv]))
    rw [lnT, List.length_append, List.length_cons, List.length_cons, Nat.mul_add]
    omega
theorem lsT_len {L : List Bk} (hn : L.length ≤ 60) (h : ∀ b, b ∈ L → vBook b = true) : (lsT L).length ≤ 1860 := by
  have := lnT_len (k := 30) (ws := L.map bkT) (fun w hw => by obtain ⟨b, hb, rfl⟩ := List.mem_map.1 hw; exact bkT_len (vB1 (h b hb)))
  rw [List.length_map] at this
  unfold lsT
  omega
end Go.Proofs.YtkoaangakmpggaaGreatDoor
end
section
/- ReadBooks: the reference's. -/
namespace Go.Proofs.YtkoaangakmpggaaGreatDoor
open Go.RowKit Go.Proofs.YtkoaangakmpggaaGreatDoorW.PrintWords Go.Proofs.YtkoaangakmpggaaGreatDoorW.PrintMore
set_option linter.unusedVariables false
set_option linter.unusedSimpArgs false
set_option maxRecDepth 100000

open Classical in
/-- The list of a text, none if there is none. -/
noncomputable def lsV (l : Bs) : List Bk := if h : ∃ L, RdLs l L then Classical.choose h else []
open Classical in
noncomputable def lsE (l : Bs) : Int := if ∃ L, RdLs l L then 0 else 5
theorem ls_of {l : Bs} {L : List Bk} {n : Int} (h : LsR l L n 5) : lsV l = L ∧ lsE l = n := by
  rcases h with ⟨rfl, h⟩ | ⟨rfl, rfl, h⟩
  · have hx : ∃ L, RdLs l L := ⟨L, h⟩
    unfold lsV lsE
    rw [dif_pos hx, if_pos hx]
    exact ⟨(Classical.choose_spec hx).unique h, rfl⟩
  · have hx : ¬ ∃ L, RdLs l L := fun ⟨L, hL⟩ => h L hL
    unfold lsV lsE
    rw [dif_neg hx, if_neg hx]
    exact ⟨rfl, rfl⟩
theorem lsV_len (l : Bs) : (lsV l).length ≤ 60 := by
  by_cases h : ∃ L, RdLs l L
  · obtain ⟨L, hL⟩ := h
    rw [(ls_of (.inl ⟨rfl, hL⟩)).1]
    exact hL.1
  · rw [(ls_of (.inr ⟨rfl, rfl, fun L hL => h ⟨L, hL⟩⟩)).1]
    exact Nat.zero_le _
theorem bk_yes {l : Bs} (h : bkK l = true) : RdB l (bkV l) := by
  by_cases hx : ∃ b, RdB l b
  · obtain ⟨b, hb⟩ := hx
    rw [(bk_ok hb).1]
    exact hb
  · rw [(bk_no (fun b hb => hx ⟨b, hb⟩)).2] at h
    cases h
theorem bk_none {l : Bs} (h : bkK l = false) (b : Bk) : ¬ RdB l b := fun hb => by
  rw [(bk_ok hb).2] at h
  cases h
theorem ls_all {l : Bs} {ws : List Bs} (h : splitL 10 l = ws ++ [[]]) (hn : ws.length ≤ 60) (hk : ∀ w, w ∈ ws → bkK w = true) : lsV l = ws.map bkV ∧ lsE l = 0 := by
  refine ls_of (ls_ok ?_ (by rw [List.length_map]; exact hn) ?_ 5)
  · rw [h, List.map_map]
    congr 1
    exact (map_back (fun w hw => (bk_yes (hk w hw)).2)).symm
  · intro b hb
    obtain ⟨w, hw, rfl⟩ := List.mem_map.1 hb
    exact (bk_yes (hk w hw)).1
theorem bkE_no {l : Bs} (h : bkK l = false) : bkE l = 5 := by unfold bkE; rw [h]; rfl
theorem bkE_yes {l : Bs} (h : bkK l = true) : bkE l = 0 := by unfold bkE; rw [h]; rfl
theorem tupB_no {w W W' : World} {l : Bs} (h : lsV l = [] ∧ lsE l = 5) (hb : Below w.heap.size w W) (hW : W' = W.alloc (.cells #[] 44)) : TupB w (lsV l) (lsE l) (.tuple #[.slice (some ⟨W.heap.size, 0, none⟩) 0 0, .int .i64 5]) W' := by
  rw [h.1, h.2, hW]
  exact ⟨_, rfl, R_zero kBk 44 W w.heap.size (fun _ => True) hb.size trivial⟩
theorem wrap64_low {n : Int} (h0 : 0 ≤ n) (h1 : n ≤ 9223372036854775807) : wrap64 n = n := by
  unfold wrap64
  omega
end Go.Proofs.YtkoaangakmpggaaGreatDoor
end
