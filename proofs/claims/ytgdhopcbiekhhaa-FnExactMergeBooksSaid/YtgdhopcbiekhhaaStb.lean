/- The library's stable sort of a row of books; slices.Clone and slices.SortStableFunc at books. -/
import Derived.Test.YtgdhopcbiekhhaaMrg
import Derived.Test.YtgdhopcbiekhhaaRow
import Derived.StillTailTactics
import Derived.Still
import Derived.WalkSpells
namespace Go.Proofs.Ytgdhopcbiekhhaa
open Go.RowKit Go.Proofs.YtgdhopcbiekhhaaW.PrintWords Go.Proofs.YtgdhopcbiekhhaaW.PrintMore
set_option linter.unusedVariables false
set_option linter.unusedSimpArgs false
set_option maxRecDepth 100000

theorem symMerge_c (g n cap : Nat) (f : FuncId) (cf : Array Value) (cm : Bk → Bk → Int) (hw : Srt.Wk (ltC cm)) (B : Nat) (ok : Nat → Prop) (w : World) (hl : n ≤ 1000000000) (hC : CmpOk f cf cm g w) : ∀ (k a m b : Nat), b - a ≤ k → MergeOk g n cap f cf cm B ok w a m b := by
  intro k
  induction k with
  | zero => intro a m b h L W hR hn hP h1 h2 hb; omega
  | succ k ih =>
    intro a m b h L W hR hn hP h1 h2 hb
    by_cases hm1 : m = a + 1
    · exact merge1_c g n cap L a m b f cf cm hw B ok w W hR hn hm1 hP h2 hb hl hC
    · by_cases hm2 : b = m + 1
      · exact merge2_c g n cap L a m b f cf cm hw B ok w W hR hn hm2 hm1 hP h1 hb hl hC
      · exact merge3_c g n cap L a m b f cf cm hw B ok w W hR hn hm1 hm2 hP h1 h2 hb hl hC (fun a' m' b' h' => ih a' m' b' (by omega))
theorem insertion_i (g n cap : Nat) (L : List Bk) (a b : Nat) (x y : Int) (hx : x = a) (hy : y = b) (f : FuncId) (cf : Array Value) (cm : Bk → Bk → Int) (hw : Srt.Wk (ltC cm)) (B : Nat) (ok : Nat → Prop) (w W : World) (hR : RowIs B ok w g n cap L W) (hn : L.length = n) (hab : a ≤ b) (hb : b ≤ n) (hl : n ≤ 1000000000) (hC : CmpOk f cf cm g w) :
    Calls Try.prog 156 #[.slice (some ⟨g, 0, none⟩) n cap, .int .i64 x, .int .i64 y, .func (.func f) #[] cf] W (Merged B ok w g n cap (ltC cm) a b L) := by
  subst hx hy
  refine (insertion_c g n cap L a b f cf cm B ok w W hR hn hab hb hl hC).mono ?_
  rintro e w1 ⟨rfl, h1⟩
  have hd := Srt.insS_done hw L hab (by omega)
  exact ⟨rfl, _, h1, by rw [hd.len hw]; exact hn, hd⟩
theorem symMerge_i (g n cap : Nat) (L : List Bk) (a m b : Nat) (x y z : Int) (hx : x = a) (hy : y = m) (hz : z = b) (f : FuncId) (cf : Array Value) (cm : Bk → Bk → Int) (hw : Srt.Wk (ltC cm)) (B : Nat) (ok : Nat → Prop) (w W : World) (hR : RowIs B ok w g n cap L W) (hn : L.length = n) (hP : Srt.Pre (ltC cm) L a m b) (h1 : a < m) (h2 : m < b) (hb : b ≤ n) (hl : n ≤ 1000000000) (hC : CmpOk f cf cm g w) :
    Calls Try.prog 157 #[.slice (some ⟨g, 0, none⟩) n cap, .int .i64 x, .int .i64 y, .int .i64 z, .func (.func f) #[] cf] W (Merged B ok w g n cap (ltC cm) a b L) := by
  subst hx hy hz
  exact symMerge_c g n cap f cf cm hw B ok w hl hC _ a m b (Nat.le_refl _) L W hR hn hP h1 h2 hb
structure SIn (lt : Bk → Bk → Bool) (L C : List Bk) (n t av : Nat) : Prop where
  ah : Srt.Ahead lt C 20 t
  st : Srt.Stab lt L C
  len : C.length = n
  eq : av = t * 20
  le : av ≤ n
structure SMid (lt : Bk → Bk → Bool) (L C : List Bk) (n k : Nat) : Prop where
  bl : Srt.Blocks lt C k
  st : Srt.Stab lt L C
  len : C.length = n
  k0 : 0 < k
structure SUp (lt : Bk → Bk → Bool) (L C : List Bk) (n k t av : Nat) : Prop where
  ah : Srt.Ahead lt C (2 * k) t
  be : Srt.Behind lt C k (2 * t)
  st : Srt.Stab lt L C
  len : C.length = n
  eq : av = t * (2 * k)
  le : av ≤ n
set_option maxHeartbeats 16000000 in
theorem stable_c (g n cap : Nat) (L : List Bk) (f : FuncId) (cf : Array Value) (cm : Bk → Bk → Int) (hw : Srt.Wk (ltC cm)) (B : Nat) (ok : Nat → Prop) (w W : World) (hR : RowIs B ok w g n cap L W) (hn : L.length = n) (hl : n ≤ 1000000000) (hC : CmpOk f cf cm g w) :
    Calls Try.prog 148 #[.slice (some ⟨g, 0, none⟩) n cap, .int .i64 n, .func (.func f) #[] cf] W (Writes B ok w g n cap (Srt.sortL (ltC cm) L)) := by
  have HR := Aside0.mk hR
  have HC := Aside0.mk hC
  have HN := Aside0.mk hn
  clear hR hC hn
  go_enter Try.func148, Try.ntmps148
  go_wp2
  go_loopg [7, 8] n (fun gk v7 v8 wr => ∃ (t av : Nat) (C : List Bk), av + gk = n ∧ v7 = .int .i64 av ∧ v8 = .int .i64 ((av : Int) + 20) ∧ Aside0 (SIn (ltC cm) L C n t av) ∧ Aside0 (RowIs B ok w g n cap C wr))
  case atStart => exact ⟨0, 0, L, by omega, rfl, rfl, ⟨⟨Srt.Ahead.zero _ _ _, Srt.Stab.refl _ _, HN.out, by omega, by omega⟩⟩, HR⟩
  case round =>
    clear HR
    obtain ⟨t, av, C, hg, rfl, rfl, HS, HR⟩ := hrel
    by_cases hlt : av + 20 ≤ n
    · go_wp2_with fail
      refine (insertion_i g n cap C av (av + 20) _ _ rfl (by omega) f cf cm hw B ok w wr HR.out HS.out.len (by omega) hlt hl HC.out).mono ?_
      rintro e w1 ⟨rfl, C', h1, h2, h3⟩
      have H1 := Aside0.mk h1
      have HS' := Aside0.mk (show SIn (ltC cm) L C' n (t + 1) (av + 20) from ⟨HS.out.ah.next hw (by rw [← HS.out.eq]; exact h3), HS.out.st.trans h3.stab, h2, by have := HS.out.eq; omega, hlt⟩)
      clear h1 h2 h3
      go_wp2
      go_roundg (gk - 20)
      case measure => omega
      exact ⟨t + 1, av + 20, C', by omega, by go_num, by go_num, HS', H1⟩
    · have hle := HS.out.le
      go_wp2_with fail
      refine (insertion_i g n cap C av n _ _ rfl rfl f cf cm hw B ok w wr HR.out HS.out.len hle (Nat.le_refl _) hl HC.out).mono ?_
      rintro e w1 ⟨rfl, C', h1, h2, h3⟩
      have H1 := Aside0.mk h1
      have HM := Aside0.mk (show SMid (ltC cm) L C' n 20 from ⟨HS.out.ah.last hw (by rw [← HS.out.eq, HS.out.len]; omega) (by rw [← HS.out.eq, HS.out.len]; exact h3), HS.out.st.trans h3.stab, h2, by omega⟩)
      clear h1 h2 h3 hg hlt hle HS HR
      go_wp2
      obtain ⟨gO, rfl⟩ : ∃ g : Nat, g = gk := ⟨_, rfl⟩
      go_loopg [6] (n - 20) (fun gk v6 wr => ∃ (k : Nat) (D : List Bk), gk = n - k ∧ v6 = .int .i64 k ∧ Aside0 (SMid (ltC cm) L D n k) ∧ Aside0 (RowIs B ok w g n cap D wr))
      case atStart => exact ⟨20, C', rfl, rfl, HM, H1⟩
      case round =>
        clear HM H1
        obtain ⟨k, D, hg, rfl, HM, HR⟩ := hrel
        have hk0 := HM.out.k0
        by_cases hlt : k < n
        · obtain ⟨wo, rfl⟩ : ∃ wo : World, wo = wr := ⟨_, rfl⟩
          obtain ⟨g1, rfl⟩ : ∃ g : Nat, g = gk := ⟨_, rfl⟩
          have HS0 := Aside0.mk (show SUp (ltC cm) L D n k 0 0 from ⟨Srt.Ahead.zero _ _ _, HM.out.bl.behind, HM.out.st, HM.out.len, by omega, by omega⟩)
          go_wp2
          go_loopg [7, 8] n (fun gk v7 v8 wr => ∃ (t av : Nat) (E : List Bk), av + gk = n ∧ v7 = .int .i64 av ∧ v8 = .int .i64 ((av : Int) + 2 * (k : Int)) ∧ Aside0 (SUp (ltC cm) L E n k t av) ∧ Aside0 (RowIs B ok w g n cap E wr))
          case atStart => exact ⟨0, 0, D, by omega, rfl, by simp, HS0, HR⟩
          case round =>
            clear HR HS0
            obtain ⟨t, av, E, hg2, rfl, rfl, HS, HR⟩ := hrel
            have hle := HS.out.le
            by_cases hle2 : av + 2 * k ≤ n
            · have HP := Aside0.mk (HS.out.be.pre (by rw [← HS.out.eq, HS.out.len]; exact hle2))
              have i0 : (av : Int) + 2 * (k : Int) ≤ (n : Int) := by omega
              go_wp2_with fail
              refine (symMerge_i g n cap E av (av + k) (av + 2 * k) _ _ _ rfl (by omega) (by omega) f cf cm hw B ok w wr HR.out HS.out.len (by have := HP.out; rw [← HS.out.eq] at this; exact this) (by omega) (by omega) hle2 hl HC.out).mono ?_
              rintro e w1 ⟨rfl, E', h1, h2, h3⟩
              have H1 := Aside0.mk h1
              have HS' := Aside0.mk (show SUp (ltC cm) L E' n k (t + 1) (av + 2 * k) from ⟨HS.out.ah.next hw (by rw [← HS.out.eq]; exact h3), HS.out.be.next hw (by rw [← HS.out.eq]; exact h3), HS.out.st.trans h3.stab, h2, by rw [HS.out.eq, Nat.add_mul, Nat.one_mul], hle2⟩)
              clear h1 h2 h3
              go_wp2
              go_roundg (gk - 2 * k)
              case measure => omega
              exact ⟨t + 1, av + 2 * k, E', by omega, by go_num, by go_num, HS', H1⟩
            · have i0 : ¬ (av : Int) + 2 * (k : Int) ≤ (n : Int) := by omega
              by_cases hm : av + k < n
              · have HP := Aside0.mk (HS.out.be.pre_last (by rw [← HS.out.eq, HS.out.len]; omega) (by rw [← HS.out.eq, HS.out.len]; omega))
                go_wp2_with fail
                refine (symMerge_i g n cap E av (av + k) n _ _ _ rfl (by omega) rfl f cf cm hw B ok w wr HR.out HS.out.len (by have := HP.out; rw [← HS.out.eq, HS.out.len] at this; exact this) (by omega) (by omega) (Nat.le_refl _) hl HC.out).mono ?_
                rintro e w1 ⟨rfl, E', h1, h2, h3⟩
                have H1 := Aside0.mk h1
                have HM' := Aside0.mk (show SMid (ltC cm) L E' n (2 * k) from ⟨HS.out.ah.last hw (by rw [← HS.out.eq, HS.out.len]; omega) (by rw [← HS.out.eq, HS.out.len]; exact h3), HS.out.st.trans h3.stab, h2, by omega⟩)
                clear h1 h2 h3
                go_wp2
                go_roundg (n - 2 * k)
                case measure => omega
                exact ⟨2 * k, E', rfl, by go_num, HM', H1⟩
              · have HD := Aside0.mk (HS.out.be.done_last (by rw [← HS.out.eq, HS.out.len]; omega) (by rw [← HS.out.eq, HS.out.len]; omega))
                have HM' := Aside0.mk (show SMid (ltC cm) L E n (2 * k) from ⟨HS.out.ah.last hw (by rw [← HS.out.eq, HS.out.len]; omega) HD.out, HS.out.st, HS.out.len, by omega⟩)
                go_wp2_with fail
                go_roundg (n - 2 * k)
                case measure => omega
                exact ⟨2 * k, E, rfl, by go_num, HM', HR⟩
        · go_wp2_with fail
          exact bodyPost_end (v := .tuple #[]) (by simp [results, Try.results148, go_sem]) rfl ⟨rfl, by rw [← Srt.sortL_of hw (HM.out.bl.up (by rw [HM.out.len]; omega)) HM.out.st]; exact HR.out⟩

section
variable {ops : Array Oper} {rest : List Oper} {o : Oper} {a : Act} {Q : Exit → Act → World → Prop}
/-- append([]impl.Book{}, bs...). -/
theorem bk_append_all {w W : World} (hgd : o.guard = none) (s x : Operand) (ho : o.op = .call { callee := .builtin .append, args := #[s, x], argTypes := #[40, 40] }) (A : Option Addr) (m c : Nat) (ys : List Bk)
    (hs : a.eval s = .slice (some ⟨W.heap.size, 0, none⟩) 0 0) (hx : a.eval x = .slice A m c) (HL : kBk.C W A m ys) (HB : Below w.heap.size w W) (hl : m ≤ 2097152)
    (h : ∀ v1 w1, kBk.R 34 w1 w.heap.size (fun _ => True) v1 ys → Below w.heap.size w w1 → wpList Try.prog ops Q rest (a.put o.dst v1) w1) :
    wpList Try.prog ops Q (o :: rest) a (W.alloc (.cells #[] 34)) :=
  Kd.R_append_rows kBk (Rr := kBk.K (W.alloc (.cells #[] 34))) (w0 := w) w.heap.size hgd s x 40 34 (.agg #[.int .i16 0, .int .u8 0, .int .u8 0, .int .u8 0, .int .i16 0, .int .i16 0, .int .i16 0, .int .i16 0]) 14 ho Try.underlying40 info_bk rfl (by decide) (by decide) _ [] ys A m c (fun _ => True) (fun _ => False) hs hx (R_zero _ _ _ _ _ HB.size trivial) (Kd.C_below HL (balloc (Below.refl _ _) _)) (fun x cs h => h) (fun _ h => h.elim) (fun _ _ => trivial) (HB.alloc HB.size _) (by simp only [World.size_alloc]; have := HB.size; omega) (by simp only [List.length_nil]; omega)
    (fun v1 w1 h1 h2 _ _ => h v1 w1 h1 h2)
end
set_option maxHeartbeats 1000000 in
theorem clone_c (A : Option Addr) (c : Nat) (L : List Bk) (w : World) (hL : kBk.C w A L.length L) (hn : L.length ≤ 2097152) :
    Calls Try.prog 115 #[.slice A L.length c] w (RetQ w (NewBk w L)) := by
  have hm := Kd.C_max hL
  have HL := Aside0.mk hL
  clear hL
  have qT : ∀ (w : World) (a : Option Addr) (n c : Nat), (binOp .eql 40 (.slice a n c) (.slice none 0 0)).run Try.prog w = .ok (.bool a.isNone) w := fun w a n c => Lib.run_eql_slice_nil w _ _ a n c 0 0 Try.underlying40
  cases A with
  | none =>
    have h0 : L = [] := by
      have h1 := HL.out
      rcases h1 with ⟨h2, h3, h4⟩
      cases L with
      | nil => rfl
      | cons x L => obtain ⟨ad, h5, _⟩ := h4 (by simp); cases h5
    subst h0
    have e0 : (none : Option Addr).isNone = true := rfl
    go_enter Try.func115, Try.ntmps115
    go_wp2_with fail
    go_ret
    exact ⟨_, rfl, Below.refl _ _, Kd.R_nil _ _ _ _ _⟩
  | some p =>
    have e0 : (some p).isNone = false := rfl
    go_enter Try.func115, Try.ntmps115
    go_wp2_with (refine bk_append_all (w := w) rfl (.tmp 5) (.tmp 6) rfl (some p) _ c L rfl rfl HL.out (Below.refl _ _) hn ?_; intro v1 w1 hR hB; have HR := Aside0.mk hR; have HB := Aside0.mk hB; clear hR hB)
    go_ret
    exact ⟨_, rfl, HB.out, HR.out⟩
/-- The list sorted, in the row where it stood. -/
def Sorted (B : Nat) (ok : Nat → Prop) (w : World) (v : Value) (L : List Bk) (en : Ending) (w' : World) : Prop := en = .returned (.tuple #[]) ∧ kBk.R 34 w' B ok v L ∧ w.grownBy w' v.ownBlock
theorem insertion0_c (A : Option Addr) (c : Nat) (f : FuncId) (cf : Array Value) (w : World) : Calls Try.prog 156 #[.slice A 0 c, .int .i64 0, .int .i64 0, .func (.func f) #[] cf] w (RetS w (.tuple #[])) := by
  go_enter Try.func156, Try.ntmps156
  go_wp2
  refine wp_loop_once ?_
  go_wp2
  exact bodyPost_end (v := .tuple #[]) (by simp [results, Try.results156, go_sem]) rfl ⟨rfl, rfl⟩
theorem stab0_c (A : Option Addr) (c : Nat) (f : FuncId) (cf : Array Value) (w : World) : Calls Try.prog 148 #[.slice A 0 c, .int .i64 0, .func (.func f) #[] cf] w (RetS w (.tuple #[])) := by
  have HI := Aside0.mk (insertion0_c A c f cf)
  go_enter Try.func148, Try.ntmps148
  go_wp2
  refine wp_loop_once ?_
  go_wp2_with (refine (HI.out _).mono ?_; rintro _ w1 ⟨rfl, rfl⟩)
  refine wp_loop_once ?_
  go_wp2
  exact bodyPost_end (v := .tuple #[]) (by simp [results, Try.results148, go_sem]) rfl ⟨rfl, rfl⟩
theorem stable0_c (A : Option Addr) (c : Nat) (f : FuncId) (cf : Array Value) (B : Nat) (ok : Nat → Prop) (w : World) (hR : kBk.R 34 w B ok (.slice A 0 c) []) :
    Calls Try.prog 131 #[.slice A 0 c, .func (.func f) #[] cf] w (Sorted B ok w (.slice A 0 c) []) := by
  have HS := Aside0.mk (stab0_c A c f cf)
  have HR := Aside0.mk hR
  clear hR
  go_enter Try.func131, Try.ntmps131
  go_wp2_with (refine (HS.out _).mono ?_; rintro _ w1 ⟨rfl, rfl⟩)
  exact bodyPost_end (v := .tuple #[]) (by simp [results, Try.results131, go_sem]) rfl ⟨rfl, HR.out, World.grownBy.refl _ _⟩
theorem sortStable_c (v : Value) (L : List Bk) (f : FuncId) (cf : Array Value) (cm : Bk → Bk → Int) (hw : Srt.Wk (ltC cm)) (B : Nat) (ok : Nat → Prop) (w : World) (hR : kBk.R 34 w B ok v L) (hl : L.length ≤ 1000000000) (hC : ∀ g, v.ownBlock = some g → CmpOk f cf cm g w) :
    Calls Try.prog 131 #[v, .func (.func f) #[] cf] w (Sorted B ok w v (Srt.sortL (ltC cm) L)) := by
  by_cases h0 : 0 < L.length
  · obtain ⟨g, cap, rfl, _, _, _, _⟩ := Kd.R_form hR h0
    have HR := Aside0.mk (show RowIs B ok w g L.length cap L w from ⟨hR, World.grownBy.refl _ _⟩)
    have HC := Aside0.mk (hC g rfl)
    have hm : L.length ≤ 9223372036854775807 := by omega
    clear hR hC
    go_enter Try.func131, Try.ntmps131
    go_wp2_with (refine (stable_c g L.length cap L f cf cm hw B ok w _ HR.out rfl hl HC.out).mono ?_; rintro _ w1 ⟨rfl, h1⟩; have H1 := Aside0.mk h1; clear h1)
    exact bodyPost_end (v := .tuple #[]) (by simp [results, Try.results131, go_sem]) rfl ⟨rfl, H1.out.1, H1.out.2⟩
  · have e0 : L = [] := List.eq_nil_of_length_eq_zero (by omega)
    subst e0
    obtain ⟨A, c, rfl⟩ := Kd.R_slice hR
    exact stable0_c A c f cf B ok w hR
end Go.Proofs.Ytgdhopcbiekhhaa
