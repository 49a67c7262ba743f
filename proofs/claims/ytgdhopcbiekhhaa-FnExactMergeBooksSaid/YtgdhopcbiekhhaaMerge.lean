/- slices.Grow and slices.Concat at books; MergeBooks: the program's and the reference's. -/
import Derived.Test.YtgdhopcbiekhhaaSort
import Derived.Test.YtgdhopcbiekhhaaSCode
import Derived.StillTailTactics
import Derived.Still
import Derived.Test.YtgdhopcbiekhhaaWZeros
namespace Go.Proofs.Ytgdhopcbiekhhaa
open Go.RowKit Go.Proofs.YtgdhopcbiekhhaaW.PrintWords Go.Proofs.YtgdhopcbiekhhaaW.PrintMore
set_option linter.unusedVariables false
set_option linter.unusedSimpArgs false
set_option maxRecDepth 100000

section
variable {ops : Array Oper} {rest : List Oper} {o : Oper} {a : Act} {Q : Exit → Act → World → Prop}
/-- append(v, make([]impl.Book, n)...). -/
theorem bk_append_zeros {w W : World} (hgd : o.guard = none) (s x : Operand) (ho : o.op = .call { callee := .builtin .append, args := #[s, x], argTypes := #[40, 3] }) (v : Value) (xs : List Bk) (n : Int)
    (hs : a.eval s = v) (hx : a.eval x = .int .i64 n) (HO : kBk.R 34 W w.heap.size (fun _ => True) v xs) (h0 : 0 ≤ n) (HB : Below w.heap.size w W) (hl : xs.length + n.toNat ≤ 2097152)
    (h : ∀ v1 w1, kBk.R 34 w1 w.heap.size (fun _ => True) v1 (xs ++ List.replicate n.toNat zBk) → Below w.heap.size w w1 → wpList Try.prog ops Q rest (a.put o.dst v1) w1) :
    wpList Try.prog ops Q (o :: rest) a W :=
  Kd.R_append_zeros kBk (w0 := w) w.heap.size hgd s x 40 3 34 (.agg #[.int .i16 0, .int .u8 0, .int .u8 0, .int .u8 0, .int .i16 0, .int .i16 0, .int .i16 0, .int .i16 0]) 14 ho Try.underlying40 Try.underlying3 info_bk rfl (by decide) (by decide) v xs zBk n (fun _ => True) hs hx rfl (fun _ _ => trivial) HO h0 HB HB.size (by omega)
    (fun v1 w1 h1 h2 _ _ => h v1 w1 h1 h2)
/-- append(v, bs...). -/
theorem bk_append_rows {w W : World} (hgd : o.guard = none) (s x : Operand) (ho : o.op = .call { callee := .builtin .append, args := #[s, x], argTypes := #[40, 40] }) (v : Value) (xs : List Bk) (A : Option Addr) (m c : Nat) (ys : List Bk)
    (hs : a.eval s = v) (hx : a.eval x = .slice A m c) (HO : kBk.R 34 W w.heap.size (fun _ => True) v xs) (HL : kBk.C W A m ys) (HB : Below w.heap.size w W) (hl : xs.length + m ≤ 2097152)
    (h : ∀ v1 w1, kBk.R 34 w1 w.heap.size (fun _ => True) v1 (xs ++ ys) → Below w.heap.size w w1 → wpList Try.prog ops Q rest (a.put o.dst v1) w1) :
    wpList Try.prog ops Q (o :: rest) a W :=
  Kd.R_append_rows kBk (Rr := kBk.K W) (w0 := w) w.heap.size hgd s x 40 34 (.agg #[.int .i16 0, .int .u8 0, .int .u8 0, .int .u8 0, .int .i16 0, .int .i16 0, .int .i16 0, .int .i16 0]) 14 ho Try.underlying40 info_bk rfl (by decide) (by decide) v xs ys A m c (fun _ => True) (fun _ => False) hs hx HO HL (fun x cs h => h) (fun _ h => h.elim) (fun _ _ => trivial) HB HB.size (by omega)
    (fun v1 w1 h1 h2 _ _ => h v1 w1 h1 h2)
end
theorem cut_bk {n : Nat} (A : Option Addr) (c : Nat) (h : n ≤ c) (W : World) : (Instr.slice 40 (.slice A n c) none (some (.int .i64 0)) none).run Try.prog W = .ok (.slice A 0 c) W := by
  obtain ⟨i, hi, _⟩ := Option.map_eq_some_iff.1 info_bk
  exact cut_to 40 34 .i64 Try.underlying40 hi A n c 0 (by omega) (by omega) h W
theorem grow_c (n : Nat) (hn : n ≤ 2097152) (w : World) : Calls Try.prog 149 #[.slice none 0 0, .int .i64 n] w (RetQ w (NewBk w [])) := by
  by_cases h0 : n = 0
  · subst h0
    go_enter Try.func149, Try.ntmps149
    go_wp2_with fail
    go_ret
    exact ⟨_, rfl, Below.refl _ _, Kd.R_nil _ _ _ _ _⟩
  · have hp : 0 < n := by omega
    clear h0
    go_enter Try.func149, Try.ntmps149
    go_wp2_with (at_builtin; refine bk_append_zeros (w := w) rfl (.tmp 20) (.tmp 21) rfl _ [] (n : Int) rfl rfl (Kd.R_nil _ _ _ _ _) (by omega) (Below.refl _ _) (by simp; omega) ?_; intro v1 w1 hR hB; obtain ⟨A1, c1, rfl, hle, _⟩ := Kd.R_reads hR; rw [Int.toNat_natCast, List.nil_append, List.length_replicate] at hle hR ⊢; have hcut := cut_bk A1 c1 hle; have HR := Aside0.mk hR; have HB := Aside0.mk hB; clear hR hB)
    go_ret
    exact ⟨_, rfl, HB.out, by have := Kd.R_take (m := 0) HR.out (Nat.zero_le _); exact this⟩
theorem cat_len (LL : List SlB) (k : Nat) : ((LL.take k).flatMap SlB.L).length ≤ (LL.flatMap SlB.L).length := by
  have := congrArg (fun M => (List.flatMap SlB.L M).length) (List.take_append_drop k LL)
  simp only [List.flatMap_append, List.length_append] at this
  omega
theorem cat_next {LL : List SlB} {k : Nat} {x : SlB} (h : LL[k]? = some x) : (LL.take (k + 1)).flatMap SlB.L = (LL.take k).flatMap SlB.L ++ x.L := by
  rw [take_snoc h, List.flatMap_append]
  simp
set_option maxHeartbeats 2000000 in
theorem concat_c (A : Option Addr) (c : Nat) (LL : List SlB) (w : World) (hL : kSl.C w A LL.length LL) (hC : ∀ x, x ∈ LL → kBk.C w x.A x.L.length x.L) (hS : (LL.flatMap SlB.L).length ≤ 2097152) :
    Calls Try.prog 134 #[.slice A LL.length c] w (RetQ w (NewBk w (LL.flatMap SlB.L))) := by
  have hm := Kd.C_max hL
  have HL := Aside0.mk hL
  have HC := Aside0.mk hC
  have HS := Aside0.mk hS
  clear hL hC hS
  go_enter Try.func134, Try.ntmps134
  go_wp2
  go_loopg [3, 11] LL.length (fun gk v3 v11 wr => ∃ k : Nat, k + gk = LL.length ∧ v3 = .int .i64 ((LL.take k).flatMap SlB.L).length ∧ v11 = .int .i64 k ∧ Aside0 (w = wr))
  case atStart => exact ⟨0, by omega, rfl, rfl, ⟨rfl⟩⟩
  case round =>
    obtain ⟨k, hk, rfl, rfl, HW⟩ := hrel
    obtain rfl := HW.out
    have HK := Aside0.mk hk
    have h1 := cat_len LL k
    have h2 := HS.out
    by_cases hlt : k < LL.length
    · obtain ⟨ad, x, rfl, hx, hc⟩ := at_sl HL.out k hlt
      have h3 := cat_len LL (k + 1)
      have e3 := cat_next hx.out
      have HE := Aside0.mk (congrArg List.length e3)
      have h4 : ((LL.take k).flatMap SlB.L).length + x.L.length ≤ 2097152 := by rw [e3, List.length_append] at h3; omega
      have HN := Aside0.mk (show (((LL.take k).flatMap SlB.L).length : Int) + (x.L.length : Int) = (((LL.take (k + 1)).flatMap SlB.L).length : Int) by rw [e3, List.length_append]; omega)
      generalize ((LL.take k).flatMap SlB.L).length = q at h1 h4 HE HN ⊢
      clear hk e3 h3
      go_wp2_with fail
      go_roundg (gk - 1)
      case measure => have := HK.out; omega
      exact ⟨k + 1, by have := HK.out; omega, by rw [HN.out], by go_num, ⟨rfl⟩⟩
    · have hk1 : LL.take k = LL := List.take_of_length_le (by omega)
      have HG := Aside0.mk (fun (n : Nat) h => grow_c n h w)
      rw [hk1]
      generalize hq : (LL.flatMap SlB.L).length = q at HG h2 ⊢
      clear hk hk1 h1
      go_wp2_with fail
      refine (HG.out q h2).mono ?_; rintro _ w1 ⟨v, rfl, hb1, hv⟩
      have HB1 := Aside0.mk hb1
      have HV1 := Aside0.mk (show kBk.R 34 w1 w.heap.size (fun _ => True) v [] from hv)
      clear hb1 hv
      go_wp2_with fail
      obtain ⟨gO, rfl⟩ : ∃ g : Nat, g = gk := ⟨_, rfl⟩
      go_loopg [6, 27] LL.length (fun gk v6 v27 wr => ∃ k : Nat, k + gk = LL.length ∧ v27 = .int .i64 k ∧ Aside0 (kBk.R 34 wr w.heap.size (fun _ => True) v6 ((LL.take k).flatMap SlB.L)) ∧ Aside0 (Below w.heap.size w wr))
      case atStart => exact ⟨0, by omega, rfl, HV1, HB1⟩
      case round =>
        clear HB1 HV1
        obtain ⟨k, hk, rfl, HR, HB⟩ := hrel
        have HK := Aside0.mk hk
        by_cases hlt : k < LL.length
        · obtain ⟨ad, x, rfl, hx, hc⟩ := at_sl (Kd.C_below HL.out HB.out) k hlt
          have h3 := cat_len LL (k + 1)
          have HE := Aside0.mk (cat_next hx.out)
          have h4 : ((LL.take k).flatMap SlB.L).length + x.L.length ≤ 2097152 := by have := HS.out; rw [HE.out, List.length_append] at h3; omega
          have H4 := Aside0.mk h4
          clear hk h3 h4
          go_wp2_with (at_builtin; refine bk_append_rows (w := w) rfl (.tmp 31) (.tmp 32) rfl _ ((LL.take k).flatMap SlB.L) x.A _ x.c x.L rfl rfl HR.out (Kd.C_below (HC.out x (mem_of hx.out)) HB.out) HB.out H4.out ?_; intro v2 w2 hR hB; have HR2 := Aside0.mk hR; have HB2 := Aside0.mk hB; clear hR hB)
          go_roundg (gk - 1)
          case measure => have := HK.out; omega
          exact ⟨k + 1, by have := HK.out; omega, by go_num, ⟨by rw [HE.out]; exact HR2.out⟩, HB2⟩
        · have hk1 : LL.take k = LL := List.take_of_length_le (by omega)
          clear hk
          go_wp2
          go_ret
          exact ⟨_, rfl, HB.out, by have := HR.out; rw [hk1] at this; exact this⟩
def okMg (L M : List Bk) : Bool := vBooks L && vBooks M
def inMg (L M : List Bk) : Bool := isS L && isS M
def mgE (L M : List Bk) : Int := if okMg L M = true then (if inMg L M = true then (if 60 < L.length + M.length then 3 else 0) else 4) else 1
def mgV (L M : List Bk) : List Bk := if mgE L M = 0 then Srt.sortL (ltBy usualL) (L ++ M) else []
theorem mg_bad {L M : List Bk} {e : Int} (h : mgE L M = e) (he : e ≠ 0) : mgV L M = [] ∧ mgE L M = e := ⟨by unfold mgV; rw [h, if_neg he], h⟩
theorem mg_ok {L M : List Bk} (h : mgE L M = 0) : mgV L M = Srt.sortL (ltBy usualL) (L ++ M) ∧ mgE L M = 0 := ⟨by unfold mgV; rw [h, if_pos rfl], h⟩
theorem mg_valid {L M : List Bk} (h : mgE L M = 0) : vBooks (L ++ M) = true ∧ vBooks L = true ∧ vBooks M = true := by
  unfold mgE at h
  by_cases h1 : okMg L M = true
  · rw [if_pos h1] at h
    by_cases h2 : inMg L M = true
    · rw [if_pos h2] at h
      by_cases h3 : 60 < L.length + M.length
      · rw [if_pos h3] at h; cases h
      · obtain ⟨h4, h5⟩ := Bool.and_eq_true_iff.1 h1
        refine ⟨?_, h4, h5⟩
        unfold vBooks at h4 h5 ⊢
        obtain ⟨_, h6⟩ := Bool.and_eq_true_iff.1 h4
        obtain ⟨_, h7⟩ := Bool.and_eq_true_iff.1 h5
        rw [List.all_append, h6, h7, List.length_append, decide_eq_true (by omega)]
        rfl
    · rw [if_neg h2] at h; cases h
  · rw [if_neg h1] at h; cases h
theorem mgV_len (L M : List Bk) : (mgV L M).length ≤ 2097152 := by
  unfold mgV
  split
  · rename_i h
    have := vBooks_len (mg_valid h).1
    rw [sortL_len (ltBy_wk usualL)]
    omega
  · simp
theorem okSort_usual {L : List Bk} (h : vBooks L = true) : sortV usualL L = Srt.sortL (ltBy usualL) L ∧ sortE usualL L = 0 := sort_good (by unfold okSort; rw [h, Bool.and_true]; decide)
theorem sCodes_two (x y : SlB) : sCodes [x, y] = if okMg x.L y.L = true then (if inMg x.L y.L = true then 0 else 4) else 1 := by simp [sCodes, okMg, inMg]
theorem sorted2_c (A0 A1 : Option Addr) (c0 c1 : Nat) (L M : List Bk) (w : World) (hL : kBk.C w A0 L.length L) (hM : kBk.C w A1 M.length M) :
    Calls Try.prog 120 #[.slice (some ⟨w.heap.size, 0, none⟩) 2 2] (w.alloc (.cells #[.slice A0 L.length c0, .slice A1 M.length c1] 40)) (Ret (w.alloc (.cells #[.slice A0 L.length c0, .slice A1 M.length c1] 40)) (.int .i64 (if okMg L M = true then (if inMg L M = true then 0 else 4) else 1))) := by
  have h := sortedCode_c (some ⟨w.heap.size, 0, none⟩) 2 [⟨A0, c0, L⟩, ⟨A1, c1, M⟩] _ (box_Sl w [⟨A0, c0, L⟩, ⟨A1, c1, M⟩] (by simp)) (fun x hx => by
    rcases List.mem_cons.1 hx with rfl | hx
    · exact Kd.C_alloc hL _
    · rw [List.mem_singleton.1 hx]; exact Kd.C_alloc hM _)
  rw [sCodes_two] at h
  exact h
theorem concat2_c (A0 A1 : Option Addr) (c0 c1 : Nat) (L M : List Bk) (w : World) (hL : kBk.C w A0 L.length L) (hM : kBk.C w A1 M.length M) (hs : L.length + M.length ≤ 60) :
    Calls Try.prog 134 #[.slice (some ⟨w.heap.size, 0, none⟩) 2 2] (w.alloc (.cells #[.slice A0 L.length c0, .slice A1 M.length c1] 40)) (RetQ (w.alloc (.cells #[.slice A0 L.length c0, .slice A1 M.length c1] 40)) (NewBk (w.alloc (.cells #[.slice A0 L.length c0, .slice A1 M.length c1] 40)) (L ++ M))) := by
  have h := concat_c (some ⟨w.heap.size, 0, none⟩) 2 [⟨A0, c0, L⟩, ⟨A1, c1, M⟩] _ (box_Sl w [⟨A0, c0, L⟩, ⟨A1, c1, M⟩] (by simp)) (fun x hx => by
    rcases List.mem_cons.1 hx with rfl | hx
    · exact Kd.C_alloc hL _
    · rw [List.mem_singleton.1 hx]; exact Kd.C_alloc hM _) (by simp; omega)
  have e : ([⟨A0, c0, L⟩, ⟨A1, c1, M⟩] : List SlB).flatMap SlB.L = L ++ M := by simp
  rw [e] at h
  exact h
theorem sortU_c (g : Nat) (A1 : Option Addr) (c1 : Nat) (L R : List Bk) (e : Int) (hR : sortV usualL L = R) (he : sortE usualL L = e) (w : World) (hO : (Kd.int .i8).C w (some ⟨g, 0, none⟩) usualL.length usualL) (hL : kBk.C w A1 L.length L) :
    Calls Try.prog 82 #[.slice (some ⟨g, 0, none⟩) 3 3, .slice A1 L.length c1] w (RetQ w (TupB w R e)) := by
  subst hR he
  exact SortBooks_c (some ⟨g, 0, none⟩) A1 3 c1 usualL L w hO usualL_ok hL
set_option maxHeartbeats 2000000 in
theorem MergeBooks_c (A0 A1 : Option Addr) (c0 c1 : Nat) (L M : List Bk) (w : World) (hL : kBk.C w A0 L.length L) (hM : kBk.C w A1 M.length M) :
    Calls Try.prog 85 #[.slice A0 L.length c0, .slice A1 M.length c1] w (RetQ w (TupB w (mgV L M) (mgE L M))) := by
  have hm0 := Kd.C_max hL
  have hm1 := Kd.C_max hM
  have HB := Aside0.mk (balloc (Below.refl w.heap.size w) (.cells #[.slice A0 L.length c0, .slice A1 M.length c1] 40))
  have HL := Aside0.mk hL
  have HM := Aside0.mk hM
  have HS := Aside0.mk (sorted2_c A0 A1 c0 c1 L M w hL hM)
  clear hL hM
  by_cases h1 : okMg L M = true
  · obtain ⟨h4, h5⟩ := Bool.and_eq_true_iff.1 h1
    have hl0 := vBooks_len h4
    have hl1 := vBooks_len h5
    clear h4 h5
    by_cases h2 : inMg L M = true
    · rw [if_pos h1, if_pos h2] at HS
      by_cases h3 : 60 < L.length + M.length
      · have HE := Aside0.mk (mg_bad (L := L) (M := M) (e := 3) (by unfold mgE; rw [if_pos h1, if_pos h2, if_pos h3]) (by decide))
        clear h1 h2
        go_enter Try.func85, Try.ntmps85
        go_wp2_with fail
        refine HS.out.mono ?_; rintro _ w1 ⟨rfl, hb1⟩
        have HB1 := Aside0.mk (bstep HB.out hb1)
        clear hb1
        go_wp2_with fail
        go_ret2
        rw [HE.out.1, HE.out.2]
        exact ⟨_, rfl, HB1.out, _, rfl, Kd.R_nil _ _ _ _ _⟩
      · have hE : mgE L M = 0 := by unfold mgE; rw [if_pos h1, if_pos h2, if_neg h3]
        have HE := Aside0.mk (mg_ok hE)
        have HOS := Aside0.mk (okSort_usual (mg_valid hE).1)
        have HCC := Aside0.mk (fun (W : World) (a : kBk.C W A0 L.length L) (b : kBk.C W A1 M.length M) => concat2_c A0 A1 c0 c1 L M W a b (by omega))
        obtain ⟨LM, hLM⟩ : ∃ LM, L ++ M = LM := ⟨_, rfl⟩
        rw [hLM] at HCC HE HOS
        clear hLM
        clear h1 h2 hE
        go_enter Try.func85, Try.ntmps85
        go_wp2_with fail
        refine HS.out.mono ?_; rintro _ w1 ⟨rfl, hb1⟩
        have HB1 := Aside0.mk (bstep HB.out hb1)
        clear hb1
        go_wp2_with fail
        refine (usual_c w1).mono ?_; rintro _ w2 ⟨v, rfl, hb2, g, rfl, hu⟩
        have HB2 := Aside0.mk (bstep HB1.out hb2)
        have HB3 := Aside0.mk (balloc HB2.out (.cells #[.slice A0 L.length c0, .slice A1 M.length c1] 40))
        have HU := Aside0.mk (Kd.C_alloc hu (.cells #[.slice A0 L.length c0, .slice A1 M.length c1] 40))
        clear hb2 hu
        go_wp2_with fail
        refine (HCC.out w2 (Kd.C_below HL.out HB2.out) (Kd.C_below HM.out HB2.out)).mono ?_; rintro _ w3 ⟨v, rfl, hb3, hv⟩
        have HB4 := Aside0.mk (bstep HB3.out hb3)
        have HU3 := Aside0.mk (Kd.C_below HU.out hb3)
        obtain ⟨A3, c3, rfl, hc3, hC3⟩ := NewBk.open hv
        clear hb3 hv hc3
        go_wp2_with fail
        refine (sortU_c g A3 c3 LM _ _ HOS.out.1 HOS.out.2 w3 HU3.out hC3.out).mono ?_; rintro _ w4 ⟨v, rfl, hb4, v2, rfl, hv2⟩
        have HB5 := Aside0.mk (bstep HB4.out hb4)
        have HV5 := Aside0.mk (show NewBk w (Srt.sortL (ltBy usualL) LM) v2 w4 from Kd.R_lower hv2 HB4.out.size)
        clear hb4 hv2
        go_wp2_with fail
        go_ret2
        rw [HE.out.1, HE.out.2]
        exact ⟨_, rfl, HB5.out, _, rfl, HV5.out⟩
    · rw [if_pos h1, if_neg h2] at HS
      have HE := Aside0.mk (mg_bad (L := L) (M := M) (e := 4) (by unfold mgE; rw [if_pos h1, if_neg h2]) (by decide))
      clear h1 h2
      go_enter Try.func85, Try.ntmps85
      go_wp2_with fail
      refine HS.out.mono ?_; rintro _ w1 ⟨rfl, hb1⟩
      have HB1 := Aside0.mk (bstep HB.out hb1)
      clear hb1
      go_wp2_with fail
      go_ret2
      rw [HE.out.1, HE.out.2]
      exact ⟨_, rfl, HB1.out, _, rfl, Kd.R_nil _ _ _ _ _⟩
  · rw [if_neg h1] at HS
    have HE := Aside0.mk (mg_bad (L := L) (M := M) (e := 1) (by unfold mgE; rw [if_neg h1]) (by decide))
    clear h1
    go_enter Try.func85, Try.ntmps85
    go_wp2_with fail
    refine HS.out.mono ?_; rintro _ w1 ⟨rfl, hb1⟩
    have HB1 := Aside0.mk (bstep HB.out hb1)
    clear hb1
    go_wp2_with fail
    go_ret2
    rw [HE.out.1, HE.out.2]
    exact ⟨_, rfl, HB1.out, _, rfl, Kd.R_nil _ _ _ _ _⟩
theorem sortedU_c (g : Nat) (A1 : Option Addr) (c1 : Nat) (L : List Bk) (w : World) (hO : (Kd.int .i8).C w (some ⟨g, 0, none⟩) usualL.length usualL) (hL : kBk.C w A1 L.length L) (hok : OkL L) (hn : L.length ≤ 60) :
    Calls Try.prog 130 #[.slice (some ⟨g, 0, none⟩) 3 3, .slice A1 L.length c1] w (RetQ w (NewBk w (Srt.sortL (ltBy usualL) L))) :=
  l01Sorted_c (some ⟨g, 0, none⟩) A1 3 c1 usualL L w hO usualL_ord hL hok hn
set_option maxHeartbeats 2000000 in
theorem specMergeBooks_c (A0 A1 : Option Addr) (c0 c1 : Nat) (L M : List Bk) (hok0 : OkL L) (hok1 : OkL M) (w : World) (hL : kBk.C w A0 L.length L) (hM : kBk.C w A1 M.length M) :
    Calls Try.prog 84 #[.slice A0 L.length c0, .slice A1 M.length c1] w (RetQ w (TupB w (mgV L M) (mgE L M))) := by
  have hm0 := Kd.C_max hL
  have hm1 := Kd.C_max hM
  have HB0 := Aside0.mk (Below.refl w.heap.size w)
  have HL := Aside0.mk hL
  have HM := Aside0.mk hM
  have HVL := Aside0.mk (fun W h => l01Ok_c A0 c0 L hok0 W h)
  have HVM := Aside0.mk (fun W h => l01Ok_c A1 c1 M hok1 W h)
  have HOL := Aside0.mk (fun W h => l01Out_c A0 c0 L W h hok0)
  have HOM := Aside0.mk (fun W h => l01Out_c A1 c1 M W h hok1)
  have HKL := Aside0.mk hok0
  have HKM := Aside0.mk hok1
  clear hL hM hok0 hok1
  cases h1 : vBooks L
  · rw [h1] at HVL
    have HE := Aside0.mk (mg_bad (L := L) (M := M) (e := 1) (by unfold mgE okMg; rw [h1]; rfl) (by decide))
    clear h1
    go_enter Try.func84, Try.ntmps84
    go_wp2_with fail
    refine (HVL.out _ (Kd.C_below HL.out HB0.out)).mono ?_; rintro _ w1 ⟨rfl, hb1⟩
    have HB1 := Aside0.mk (bstep HB0.out hb1)
    clear hb1
    have HZ := Aside0.mk (R_zero kBk 34 w1 w.heap.size (fun _ => True) HB1.out.size trivial)
    have HBZ := Aside0.mk (balloc HB1.out (.cells #[] 34))
    go_wp2_with fail
    go_ret2
    rw [HE.out.1, HE.out.2]
    exact ⟨_, rfl, HBZ.out, _, rfl, HZ.out⟩
  · rw [h1] at HVL
    have hl0 := vBooks_len h1
    cases h2 : vBooks M
    · rw [h2] at HVM
      have HE := Aside0.mk (mg_bad (L := L) (M := M) (e := 1) (by unfold mgE okMg; rw [h1, h2]; rfl) (by decide))
      clear h1 h2
      go_enter Try.func84, Try.ntmps84
      go_wp2_with fail
      refine (HVL.out _ (Kd.C_below HL.out HB0.out)).mono ?_; rintro _ w1 ⟨rfl, hb1⟩
      have HB1 := Aside0.mk (bstep HB0.out hb1)
      clear hb1
      go_wp2_with fail
      refine (HVM.out _ (Kd.C_below HM.out HB1.out)).mono ?_; rintro _ w2 ⟨rfl, hb2⟩
      have HB2 := Aside0.mk (bstep HB1.out hb2)
      clear hb2
      have HZ := Aside0.mk (R_zero kBk 34 w2 w.heap.size (fun _ => True) HB2.out.size trivial)
      have HBZ := Aside0.mk (balloc HB2.out (.cells #[] 34))
      go_wp2_with fail
      go_ret2
      rw [HE.out.1, HE.out.2]
      exact ⟨_, rfl, HBZ.out, _, rfl, HZ.out⟩
    · rw [h2] at HVM
      have hl1 := vBooks_len h2
      by_cases h3 : outOf L < 0
      · by_cases h4 : outOf M < 0
        · by_cases h5 : 60 < L.length + M.length
          · have HE := Aside0.mk (mg_bad (L := L) (M := M) (e := 3) (by unfold mgE okMg inMg isS; rw [h1, h2, decide_eq_true h3, decide_eq_true h4]; simp [h5]) (by decide))
            generalize outOf L = ol at HOL h3
            generalize outOf M = om at HOM h4
            clear h1 h2
            go_enter Try.func84, Try.ntmps84
            go_wp2_with fail
            refine (HVL.out _ (Kd.C_below HL.out HB0.out)).mono ?_; rintro _ w1 ⟨rfl, hb1⟩
            have HB1 := Aside0.mk (bstep HB0.out hb1)
            clear hb1
            go_wp2_with fail
            refine (HVM.out _ (Kd.C_below HM.out HB1.out)).mono ?_; rintro _ w2 ⟨rfl, hb2⟩
            have HB2 := Aside0.mk (bstep HB1.out hb2)
            clear hb2
            go_wp2_with fail
            refine (HOL.out _ (Kd.C_below HL.out HB2.out)).mono ?_; rintro _ w3 ⟨rfl, hb3⟩
            have HB3 := Aside0.mk (bstep HB2.out hb3)
            clear hb3
            go_wp2_with fail
            refine (HOM.out _ (Kd.C_below HM.out HB3.out)).mono ?_; rintro _ w4 ⟨rfl, hb4⟩
            have HB4 := Aside0.mk (bstep HB3.out hb4)
            clear hb4
            have HZ := Aside0.mk (R_zero kBk 34 w4 w.heap.size (fun _ => True) HB4.out.size trivial)
            have HBZ := Aside0.mk (balloc HB4.out (.cells #[] 34))
            go_wp2_with fail
            go_ret2
            rw [HE.out.1, HE.out.2]
            exact ⟨_, rfl, HBZ.out, _, rfl, HZ.out⟩
          · have hE : mgE L M = 0 := by unfold mgE okMg inMg isS; rw [h1, h2, decide_eq_true h3, decide_eq_true h4]; simp; omega
            have HE := Aside0.mk (mg_ok hE)
            have HN := Aside0.mk (vBooks_len (mg_valid hE).1)
            have HOK := Aside0.mk (show OkL (L ++ M) from fun b hb => (List.mem_append.1 hb).elim (HKL.out b) (HKM.out b))
            obtain ⟨LM, hLM⟩ : ∃ LM, L ++ M = LM := ⟨_, rfl⟩
            rw [hLM] at HN HE HOK
            have HLM := Aside0.mk hLM
            clear hE hLM h1 h2
            generalize outOf L = ol at HOL h3
            generalize outOf M = om at HOM h4
            go_enter Try.func84, Try.ntmps84
            go_wp2_with fail
            refine (HVL.out _ (Kd.C_below HL.out HB0.out)).mono ?_; rintro _ w1 ⟨rfl, hb1⟩
            have HB1 := Aside0.mk (bstep HB0.out hb1)
            clear hb1
            go_wp2_with fail
            refine (HVM.out _ (Kd.C_below HM.out HB1.out)).mono ?_; rintro _ w2 ⟨rfl, hb2⟩
            have HB2 := Aside0.mk (bstep HB1.out hb2)
            clear hb2
            go_wp2_with fail
            refine (HOL.out _ (Kd.C_below HL.out HB2.out)).mono ?_; rintro _ w3 ⟨rfl, hb3⟩
            have HB3 := Aside0.mk (bstep HB2.out hb3)
            clear hb3
            go_wp2_with fail
            refine (HOM.out _ (Kd.C_below HM.out HB3.out)).mono ?_; rintro _ w4 ⟨rfl, hb4⟩
            have HB4 := Aside0.mk (bstep HB3.out hb4)
            clear hb4
            go_wp2_with (at_builtin; first | (refine bk_append_all (w := w) rfl (.tmp 32) (.tmp 33) rfl A0 _ c0 L rfl rfl (Kd.C_below HL.out HB4.out) HB4.out (by omega) ?_; intro v1 w5 hR hB; have HR5 := Aside0.mk hR; have HB5 := Aside0.mk hB; clear hR hB) | (refine bk_append_rows (w := w) rfl (.tmp 34) (.tmp 35) rfl _ L A1 _ c1 M rfl rfl HR5.out (Kd.C_below HM.out HB5.out) HB5.out (by omega) ?_; intro v2 w6 hR hB; rw [HLM.out] at hR; have HR6 := Aside0.mk (show NewBk w LM v2 w6 from hR); have HB6 := Aside0.mk hB; clear hR hB))
            obtain ⟨A6, c6, rfl, hc6, hC6⟩ := NewBk.open HR6.out
            have HB7 := Aside0.mk (balloc HB6.out (.cells #[.int .i8 1, .int .i8 2, .int .i8 3] 94))
            have hu := three_C (w6.alloc (.cells #[.int .i8 1, .int .i8 2, .int .i8 3] 94)) w6.heap.size 0 1 2 3 ((blk_cell (blk_new w6 _) 0).trans rfl) ((blk_cell (blk_new w6 _) 1).trans rfl) ((blk_cell (blk_new w6 _) 2).trans rfl)
            refine (sortedU_c w6.heap.size A6 c6 LM _ hu (Kd.C_alloc hC6.out _) HOK.out HN.out).mono ?_; rintro _ w7 ⟨v, rfl, hb7, hv⟩
            have HB8 := Aside0.mk (bstep HB7.out hb7)
            have HV8 := Aside0.mk (show NewBk w (Srt.sortL (ltBy usualL) LM) v w7 from Kd.R_lower hv HB7.out.size)
            clear hb7 hv hu
            go_wp2_with fail
            go_ret2
            rw [HE.out.1, HE.out.2]
            exact ⟨_, rfl, HB8.out, _, rfl, HV8.out⟩
        · have HE := Aside0.mk (mg_bad (L := L) (M := M) (e := 4) (by unfold mgE okMg inMg isS; rw [h1, h2, decide_eq_true h3, decide_eq_false h4]; rfl) (by decide))
          generalize outOf L = ol at HOL h3
          generalize outOf M = om at HOM h4
          clear h1 h2
          go_enter Try.func84, Try.ntmps84
          go_wp2_with fail
          refine (HVL.out _ (Kd.C_below HL.out HB0.out)).mono ?_; rintro _ w1 ⟨rfl, hb1⟩
          have HB1 := Aside0.mk (bstep HB0.out hb1)
          clear hb1
          go_wp2_with fail
          refine (HVM.out _ (Kd.C_below HM.out HB1.out)).mono ?_; rintro _ w2 ⟨rfl, hb2⟩
          have HB2 := Aside0.mk (bstep HB1.out hb2)
          clear hb2
          go_wp2_with fail
          refine (HOL.out _ (Kd.C_below HL.out HB2.out)).mono ?_; rintro _ w3 ⟨rfl, hb3⟩
          have HB3 := Aside0.mk (bstep HB2.out hb3)
          clear hb3
          go_wp2_with fail
          refine (HOM.out _ (Kd.C_below HM.out HB3.out)).mono ?_; rintro _ w4 ⟨rfl, hb4⟩
          have HB4 := Aside0.mk (bstep HB3.out hb4)
          clear hb4
          have HZ := Aside0.mk (R_zero kBk 34 w4 w.heap.size (fun _ => True) HB4.out.size trivial)
          have HBZ := Aside0.mk (balloc HB4.out (.cells #[] 34))
          go_wp2_with fail
          go_ret2
          rw [HE.out.1, HE.out.2]
          exact ⟨_, rfl, HBZ.out, _, rfl, HZ.out⟩
      · have HE := Aside0.mk (mg_bad (L := L) (M := M) (e := 4) (by unfold mgE okMg inMg isS; rw [h1, h2, decide_eq_false h3]; rfl) (by decide))
        generalize outOf L = ol at HOL h3
        clear h1 h2
        go_enter Try.func84, Try.ntmps84
        go_wp2_with fail
        refine (HVL.out _ (Kd.C_below HL.out HB0.out)).mono ?_; rintro _ w1 ⟨rfl, hb1⟩
        have HB1 := Aside0.mk (bstep HB0.out hb1)
        clear hb1
        go_wp2_with fail
        refine (HVM.out _ (Kd.C_below HM.out HB1.out)).mono ?_; rintro _ w2 ⟨rfl, hb2⟩
        have HB2 := Aside0.mk (bstep HB1.out hb2)
        clear hb2
        go_wp2_with fail
        refine (HOL.out _ (Kd.C_below HL.out HB2.out)).mono ?_; rintro _ w3 ⟨rfl, hb3⟩
        have HB3 := Aside0.mk (bstep HB2.out hb3)
        clear hb3
        have HZ := Aside0.mk (R_zero kBk 34 w3 w.heap.size (fun _ => True) HB3.out.size trivial)
        have HBZ := Aside0.mk (balloc HB3.out (.cells #[] 34))
        go_wp2_with fail
        go_ret2
        rw [HE.out.1, HE.out.2]
        exact ⟨_, rfl, HBZ.out, _, rfl, HZ.out⟩
end Go.Proofs.Ytgdhopcbiekhhaa
