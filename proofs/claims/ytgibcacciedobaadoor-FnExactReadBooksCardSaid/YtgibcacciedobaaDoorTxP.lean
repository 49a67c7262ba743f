/- Texts in plain Lean: digits, pieces between separators, numbers read. -/
import Derived.Test.YtgibcacciedobaaDoorBase
import Derived.Lib.ItoaNum
import Derived.Lib.Join
import Derived.Lib.Split
import Derived.Lib.AtoiTie
import Derived.Lib.ParseIntBTie
namespace Go.Proofs.YtgibcacciedobaaDoor
open Go.RowKit Go.Proofs.YtgibcacciedobaaDoorW.PrintWords Go.Proofs.YtgibcacciedobaaDoorW.PrintMore
set_option linter.unusedVariables false
set_option linter.unusedSimpArgs false
set_option maxRecDepth 100000

open Go.Lib (decDigits itoa atoi atoiAll decFrom decNat digitVal NumEnd)
abbrev Bs := List UInt8
/-- The digits of a number that is at least 0. -/
def dg (n : Int) : Bs := decDigits n.toNat
def bS (l : Bs) : ByteArray := ⟨l.toArray⟩
theorem bS_toList (l : Bs) : (bS l).data.toList = l := by unfold bS; simp
theorem bS_of (s : ByteArray) : bS s.data.toList = s := by unfold bS; cases s; simp
theorem bS_inj {a b : Bs} (h : bS a = bS b) : a = b := by have := congrArg (fun s : ByteArray => s.data.toList) h; simpa [bS_toList] using this
theorem bS_append (a b : Bs) : bS a ++ bS b = bS (a ++ b) := by
  apply ByteArray.ext
  simp [bS, ByteArray.data_append]
theorem itoa_dg {n : Int} (h : 0 ≤ n) : itoa n = dg n := by unfold itoa dg; rw [if_neg (by omega)]
/-- Each sign of a number's digits is a digit. -/
theorem dd_digit : ∀ (u : Nat) (x : UInt8), x ∈ decDigits u → 48 ≤ x.toNat ∧ x.toNat ≤ 57 := by
  intro u
  induction u using Nat.strongRecOn with
  | ind u ih =>
    intro x hx
    rw [decDigits] at hx
    split at hx
    · rename_i h
      rw [List.mem_singleton] at hx
      subst hx
      rw [UInt8.toNat_ofNat']
      omega
    · rename_i h
      rcases List.mem_append.1 hx with h1 | h1
      · exact ih (u / 10) (by omega) x h1
      · rw [List.mem_singleton] at h1
        subst h1
        rw [UInt8.toNat_ofNat']
        omega
theorem dg_digit {n : Int} {x : UInt8} (h : x ∈ dg n) : 48 ≤ x.toNat ∧ x.toNat ≤ 57 := dd_digit _ _ h
theorem dd_ne (u : Nat) : decDigits u ≠ [] := by
  rw [decDigits]
  split
  · exact List.cons_ne_nil _ _
  · exact List.append_ne_nil_of_right_ne_nil _ (List.cons_ne_nil _ _)
theorem decFrom_app (l : Bs) : ∀ (a : Nat) (x : UInt8), decFrom a (l ++ [x]) = (decFrom a l).bind fun n => (digitVal x).map fun d => n * 10 + d := by
  induction l with
  | nil =>
    intro a x
    simp only [List.nil_append, decFrom, Option.bind_some]
    cases digitVal x <;> rfl
  | cons y l ih =>
    intro a x
    rw [List.cons_append, decFrom, decFrom]
    cases h : digitVal y with
    | none => rfl
    | some d => exact ih _ x
theorem digitVal_dig (d : Nat) (h : d < 10) : digitVal (UInt8.ofNat (48 + d)) = some d := by
  unfold digitVal
  rw [UInt8.toNat_ofNat']
  rw [if_pos (by omega)]
  congr 1
  omega
/-- Digits are read back. -/
theorem dd_read : ∀ u : Nat, decFrom 0 (decDigits u) = some u := by
  intro u
  induction u using Nat.strongRecOn with
  | ind u ih =>
    rw [decDigits]
    split
    · rename_i h
      rw [decFrom, digitVal_dig u h]
      simp [decFrom]
    · rename_i h
      rw [decFrom_app, ih (u / 10) (by omega), Option.bind_some, digitVal_dig _ (by omega)]
      simp only [Option.map_some, Option.some.injEq]
      omega
/-- The first digit of a number above 9 is not 0. -/
theorem dd_len_le : ∀ (k u : Nat), u < 10 ^ (k + 1) → (decDigits u).length ≤ k + 1 := by
  intro k
  induction k with
  | zero =>
    intro u h
    rw [decDigits, dif_pos (by simpa using h)]
    simp
  | succ k ih =>
    intro u h
    rw [decDigits]
    split
    · simp
    · have := ih (u / 10) (by rw [Nat.pow_succ] at h; omega)
      simp only [List.length_append, List.length_cons, List.length_nil]
      omega
theorem head_app {a b : Bs} (h : a ≠ []) : (a ++ b).head? = a.head? := by
  cases a with
  | nil => exact absurd rfl h
  | cons x r => rfl
theorem dd_head : ∀ u : Nat, (decDigits u).head? = some 48 → u = 0 := by
  intro u
  induction u using Nat.strongRecOn with
  | ind u ih =>
    intro h
    rw [decDigits] at h
    split at h
    · rename_i hu
      simp only [List.head?_cons, Option.some.injEq] at h
      have := congrArg UInt8.toNat h
      rw [UInt8.toNat_ofNat'] at this
      simp at this
      omega
    · rename_i hu
      rw [head_app (dd_ne _)] at h
      have := ih (u / 10) (by omega) h
      omega
/-- What is read is written back, if it bears no 0 ahead. -/
theorem dd_back : ∀ (l : Bs) (n : Nat), l ≠ [] → decFrom 0 l = some n → (l.head? = some 48 → l.length ≤ 1) → decDigits n = l := by
  intro l
  induction hn : l.length using Nat.strongRecOn generalizing l with
  | ind k ih =>
    intro n h0 hr hz
    rcases List.eq_nil_or_concat l with rfl | ⟨m, x, rfl⟩
    · exact absurd rfl h0
    · rw [List.concat_eq_append] at hn hr hz ⊢
      rw [decFrom_app] at hr
      obtain ⟨a, ha, hr⟩ := Option.bind_eq_some_iff.1 hr
      obtain ⟨d, hd, rfl⟩ := Option.map_eq_some_iff.1 hr
      obtain ⟨d1, d2, d3⟩ := Go.Lib.digitVal_eq hd
      have hx : UInt8.ofNat (48 + d) = x := by
        apply UInt8.toNat_inj.1
        rw [UInt8.toNat_ofNat']
        omega
      by_cases hm : m = []
      · subst hm
        simp only [decFrom, Option.some.injEq] at ha
        subst ha
        rw [decDigits, dif_pos (by omega), Nat.zero_mul, Nat.zero_add, hx]
        rfl
      · have hl : m.length < k := by rw [← hn]; simp
        have hm1 : 1 ≤ m.length := List.length_pos_iff.2 hm
        have hzm : m.head? = some 48 → m.length ≤ 1 := by
          intro e
          have := hz (by rw [head_app hm]; exact e)
          rw [← hn] at this
          simp only [List.length_append, List.length_singleton] at this
          omega
        have hb := ih m.length hl m rfl a hm ha hzm
        have ha0 : a ≠ 0 := by
          rintro rfl
          have h48 : m.head? = some 48 := by rw [← hb, decDigits, dif_pos (by omega)]; rfl
          have := hz (by rw [head_app hm]; exact h48)
          rw [← hn] at this
          simp only [List.length_append, List.length_singleton] at this
          omega
        rw [decDigits, dif_neg (by omega), show (a * 10 + d) / 10 = a by omega, show (a * 10 + d) % 10 = d by omega, hb, hx]
/-- strconv's reading of digits. -/
theorem atoi_dg {n : Int} (h0 : 0 ≤ n) (h1 : n < 1000000000000000000) : Go.Lib.parseIntB 64 (dg n) = .ok n := by
  rw [Go.Lib.parseIntB_64, Go.Lib.atoiAll_short _ (by have := dd_len_le 17 n.toNat (by omega); unfold dg; omega)]
  have hr := dd_read n.toNat
  have hne := dd_ne n.toNat
  have hd := dd_digit n.toNat
  unfold dg
  generalize decDigits n.toNat = l at hr hne hd ⊢
  cases l with
  | nil => exact absurd rfl hne
  | cons x r =>
    have hx := hd x (by simp)
    have h45 : (x == 45) = false := by
      apply beq_eq_false_iff_ne.2; rintro rfl; simp at hx
    have h43 : (x == 43) = false := by
      apply beq_eq_false_iff_ne.2; rintro rfl; simp at hx
    have hnat : decNat (x :: r) = some n.toNat := by
      unfold decNat
      rw [if_neg (by simp)]
      exact hr
    have e : atoi (x :: r) = some n := by
      show (if x == 45 then (decNat r).map fun (m : Nat) => -(m : Int) else if x == 43 then (decNat r).map fun (m : Nat) => (m : Int) else (decNat (x :: r)).map fun (m : Nat) => (m : Int)) = some n
      rw [h45, h43, hnat]
      simp only [Bool.false_eq_true, if_false, Option.map_some, Option.some.injEq]
      omega
    rw [e]
    rfl
/-- The reference's reading: at most nine digits, none of them a 0 ahead of others. -/
def numL (l : Bs) : Option Nat := if l = [] ∨ 9 < l.length ∨ (l.head? = some 48 ∧ 1 < l.length) then none else decFrom 0 l
theorem numL_dg {n : Int} (h0 : 0 ≤ n) (h1 : n < 1000000000) : numL (dg n) = some n.toNat := by
  unfold numL
  rw [if_neg]
  · exact dd_read _
  · rintro (h | h | ⟨h, h2⟩)
    · exact dd_ne _ h
    · have := dd_len_le 8 n.toNat (by omega)
      unfold dg at h
      omega
    · have := dd_head _ h
      unfold dg at h2
      rw [this, decDigits, dif_pos (by omega)] at h2
      exact absurd h2 (by simp)
theorem numL_back {l : Bs} {n : Nat} (h : numL l = some n) : dg n = l := by
  unfold numL at h
  split at h
  · cases h
  · rename_i hc
    exact dd_back l n (fun e => hc (.inl e)) h (fun e => by
      by_cases hl : l.length ≤ 1
      · exact hl
      · exact absurd (.inr (.inr ⟨e, by omega⟩)) hc)
theorem numL_lt {l : Bs} {n : Nat} (h : numL l = some n) : n < 1000000000 := by
  unfold numL at h
  split at h
  · cases h
  · rename_i hc
    have hl : l.length ≤ 9 := by
      by_cases hl : l.length ≤ 9
      · exact hl
      · exact absurd (.inr (.inl (by omega))) hc
    have h1 := Go.Lib.decFrom_lt l 0 n h
    have h2 : 10 ^ l.length ≤ 10 ^ 9 := Nat.pow_le_pow_right (by decide) hl
    omega
/-- The pieces between separators. -/
def splitL (c : UInt8) : Bs → List Bs
  | [] => [[]]
  | x :: l => if x = c then [] :: splitL c l else match splitL c l with
    | [] => [[x]]
    | w :: r => (x :: w) :: r
theorem splitL_ne (c : UInt8) (l : Bs) : splitL c l ≠ [] := by
  cases l with
  | nil => exact List.cons_ne_nil _ _
  | cons x l =>
    rw [splitL]
    split
    · exact List.cons_ne_nil _ _
    · split <;> exact List.cons_ne_nil _ _
theorem splitL_none {c : UInt8} : ∀ {l : Bs}, c ∉ l → splitL c l = [l]
  | [], _ => rfl
  | x :: l, h => by
    have hx : x ≠ c := fun e => h (by simp [e])
    rw [splitL, if_neg hx, splitL_none (l := l) (fun hm => h (by simp [hm]))]
theorem splitL_cons {c : UInt8} (r : Bs) : ∀ {a : Bs}, c ∉ a → splitL c (a ++ c :: r) = a :: splitL c r
  | [], _ => by rw [List.nil_append, splitL, if_pos rfl]
  | x :: a, h => by
    have hx : x ≠ c := fun e => h (by simp [e])
    rw [List.cons_append, splitL, if_neg hx, splitL_cons r (a := a) (fun hm => h (by simp [hm]))]
/-- Pieces, with the separator between them. -/
def joinL (c : UInt8) : List Bs → Bs
  | [] => []
  | [a] => a
  | a :: b :: r => a ++ c :: joinL c (b :: r)
theorem joinL_split (c : UInt8) : ∀ l : Bs, joinL c (splitL c l) = l
  | [] => rfl
  | x :: l => by
    have ih := joinL_split c l
    have hne := splitL_ne c l
    rw [splitL]
    split
    · rename_i hx
      subst hx
      cases hs : splitL x l with
      | nil => exact absurd hs hne
      | cons w r =>
        rw [hs] at ih
        rw [joinL, ih]
        rfl
    · cases hs : splitL c l with
      | nil => exact absurd hs hne
      | cons w r =>
        rw [hs] at ih
        cases r with
        | nil =>
          simp only [joinL] at ih ⊢
          rw [ih]
        | cons b r =>
          simp only [joinL] at ih ⊢
          rw [List.cons_append, ih]
/-- Pieces that bear no separator are found again. -/
theorem splitL_join {c : UInt8} : ∀ {ws : List Bs}, ws ≠ [] → (∀ w, w ∈ ws → c ∉ w) → splitL c (joinL c ws) = ws
  | [], h, _ => absurd rfl h
  | [a], _, h => splitL_none (h a (by simp))
  | a :: b :: r, _, h => by
    rw [joinL, splitL_cons _ (h a (by simp)), splitL_join (ws := b :: r) (List.cons_ne_nil _ _) (fun w hw => h w (by simp at hw ⊢; exact .inr hw))]
/-- The library's pieces. -/
theorem index_one (c : UInt8) : ∀ l : Bs, (Go.Lib.index l [c] = -1 ∧ c ∉ l) ∨ ∃ a r, l = a ++ c :: r ∧ c ∉ a ∧ Go.Lib.index l [c] = (a.length : Int)
  | l => by
    rcases Go.Lib.index_spec l [c] with ⟨h1, h2⟩ | ⟨i, h1, hi, h2, h3⟩
    · refine .inl ⟨h1, fun hm => ?_⟩
      obtain ⟨j, hj⟩ := List.mem_iff_getElem?.1 hm
      have hjl : j < l.length := (List.getElem?_eq_some_iff.1 hj).1
      have := h2 j (by omega)
      unfold Go.Lib.occAt at this
      rw [List.drop_eq_getElem_cons hjl] at this
      have e := (List.getElem?_eq_some_iff.1 hj).2
      rw [e] at this
      simp at this
    · have hc := Go.Lib.occAt_head (t := []) rfl h2
      have hil : i < l.length := (List.getElem?_eq_some_iff.1 hc).1
      have e := (List.getElem?_eq_some_iff.1 hc).2
      refine .inr ⟨l.take i, l.drop (i + 1), ?_, ?_, ?_⟩
      · exact ((List.take_append_drop i l).symm).trans (by rw [List.drop_eq_getElem_cons hil, e])
      · intro hm
        obtain ⟨j, hj⟩ := List.mem_iff_getElem?.1 hm
        have hjl : j < (l.take i).length := (List.getElem?_eq_some_iff.1 hj).1
        rw [List.length_take] at hjl
        rw [List.getElem?_take_of_lt (by omega)] at hj
        have hb := h3 j (by omega)
        have hjl2 : j < l.length := by omega
        unfold Go.Lib.occAt at hb
        rw [List.drop_eq_getElem_cons hjl2] at hb
        have e2 := (List.getElem?_eq_some_iff.1 hj).2
        rw [e2] at hb
        simp at hb
      · rw [h1, List.length_take]
        omega
theorem splitK_one (c : UInt8) : ∀ (l : Bs) (k : Nat), Go.Lib.count l [c] ≤ k → Go.Lib.splitK [c] 0 k l = splitL c l := by
  intro l
  induction hn : l.length using Nat.strongRecOn generalizing l with
  | ind n ih =>
    intro k hk
    rcases index_one c l with ⟨h1, h2⟩ | ⟨a, r, rfl, ha, h1⟩
    · rw [splitL_none h2]
      cases k with
      | zero => rfl
      | succ k => rw [Go.Lib.splitK, h1, if_pos (by decide)]
    · have hc := Go.Lib.count_hit (List.cons_ne_nil c []) h1
      have hd : (a ++ c :: r).drop (a.length + [c].length) = r := by
        rw [List.length_singleton, ← List.drop_drop, List.drop_left]
        rfl
      rw [hd] at hc
      cases k with
      | zero => omega
      | succ k =>
        rw [Go.Lib.splitK, h1, if_neg (by simp), splitL_cons r ha, Int.toNat_natCast, hd, Nat.add_zero, List.take_left]
        rw [ih r.length (by rw [← hn]; simp; omega) r rfl k (by omega)]
theorem splitB_one (c : UInt8) (s : ByteArray) : (Go.Lib.splitB (bS [c]) 0 (Go.Lib.countB s (bS [c])) s).map (·.data.toList) = splitL c s.data.toList := by
  rw [Go.Lib.splitB_data]
  exact splitK_one c _ _ (Nat.le_refl _)
theorem cut_one {c : UInt8} {a r : Bs} (h : c ∉ a) : Go.Lib.cut (a ++ c :: r) [c] = (a, r, true) := by
  have hi : Go.Lib.index (a ++ c :: r) [c] = (a.length : Int) := by
    rcases index_one c (a ++ c :: r) with ⟨_, h2⟩ | ⟨a', r', e, ha, h1⟩
    · exact absurd (by simp) h2
    · have h3 := splitL_cons (c := c) r h
      rw [e, splitL_cons r' ha] at h3
      rw [h1]
      simp only [List.cons.injEq] at h3
      rw [h3.1]
  unfold Go.Lib.cut
  rw [hi, if_pos (by omega), Int.toNat_natCast, List.take_left, List.length_singleton, ← List.drop_drop, List.drop_left]
  rfl
theorem map_back {α : Type} {f : α → α} : ∀ {l : List α}, (∀ x, x ∈ l → f x = x) → l.map f = l
  | [], _ => rfl
  | a :: l, h => by rw [List.map_cons, h a (by simp), map_back (fun x hx => h x (by simp [hx]))]
theorem joinL_snoc (c : UInt8) : ∀ (ws : List Bs) (w : Bs), ws ≠ [] → joinL c (ws ++ [w]) = joinL c ws ++ c :: w
  | [], _, h => absurd rfl h
  | [a], w, _ => rfl
  | a :: b :: r, w, _ => by
    have := joinL_snoc c (b :: r) w (List.cons_ne_nil _ _)
    rw [List.cons_append, List.cons_append, joinL, ← List.cons_append, this, joinL, List.append_assoc, List.cons_append]
theorem joinL_len {c : UInt8} {k : Nat} : ∀ {ws : List Bs}, (∀ w, w ∈ ws → w.length ≤ k) → (joinL c ws).length ≤ (k + 1) * ws.length
  | [], _ => by simp [joinL]
  | [a], h => by
    have := h a (by simp)
    simp only [joinL, List.length_singleton]
    omega
  | a :: b :: r, h => by
    have h1 := h a (by simp)
    have h2 := joinL_len (c := c) (k := k) (ws := b :: r) (fun w hw => h w (by simp at hw ⊢; exact .inr hw))
    rw [joinL, List.length_append, List.length_cons, List.length_cons, Nat.mul_add]
    omega
theorem dg_len {n : Int} (k : Nat) (h0 : 0 ≤ n) (h : n.toNat < 10 ^ (k + 1)) : (dg n).length ≤ k + 1 := dd_len_le k n.toNat h
theorem join_joinL (c : UInt8) : ∀ ws : List Bs, Go.Lib.join ws [c] = joinL c ws
  | [] => rfl
  | [a] => by rw [Go.Lib.join_one]; rfl
  | a :: b :: r => by
    have ih := join_joinL c (b :: r)
    rw [Go.Lib.join_cons] at ih ⊢
    rw [joinL, ← ih]
    simp [Go.Lib.joinTail]
theorem dd_inj {u v : Nat} (h : decDigits u = decDigits v) : u = v := by
  have h1 := dd_read u
  rw [h, dd_read] at h1
  exact (Option.some.inj h1).symm
theorem dg_inj {n m : Int} (h0 : 0 ≤ n) (h1 : 0 ≤ m) (h : dg n = dg m) : n = m := by have := dd_inj h; omega
theorem not_dig {n : Int} {x : UInt8} (h : x.toNat < 48 ∨ 57 < x.toNat) : x ∉ dg n := fun hm => by have := dg_digit hm; omega
theorem map_dg_inj : ∀ {E F : List Int}, (∀ x, x ∈ E → 0 ≤ x) → (∀ x, x ∈ F → 0 ≤ x) → E.map dg = F.map dg → E = F
  | [], [], _, _, _ => rfl
  | [], _ :: _, _, _, h => by cases h
  | _ :: _, [], _, _, h => by cases h
  | a :: E, b :: F, h1, h2, h => by
    simp only [List.map_cons, List.cons.injEq] at h
    rw [dg_inj (h1 a (by simp)) (h2 b (by simp)) h.1, map_dg_inj (fun x hx => h1 x (by simp [hx])) (fun x hx => h2 x (by simp [hx])) h.2]
/-- What strconv reads, and whether it is written so. -/
def rdN (l : Bs) : Int := match Go.Lib.parseIntB 64 l with
  | .ok v => v
  | .range => Go.Lib.intSat 64 l
  | _ => 0
def rdOk (l : Bs) : Bool := match Go.Lib.parseIntB 64 l with
  | .ok v => itoa v == l
  | _ => false
theorem rd_dg {n : Int} (h0 : 0 ≤ n) (h1 : n < 1000000000000000000) : rdN (dg n) = n ∧ rdOk (dg n) = true := by
  unfold rdN rdOk
  rw [atoi_dg h0 h1]
  refine ⟨rfl, ?_⟩
  show (itoa n == dg n) = true
  rw [itoa_dg h0]
  exact beq_self_eq_true _
theorem rd_back {l : Bs} (h : rdOk l = true) (h0 : 0 ≤ rdN l) : dg (rdN l) = l := by
  unfold rdOk at h
  unfold rdN at h0 ⊢
  split at h
  · rename_i v hv
    rw [hv] at h0 ⊢
    rw [← itoa_dg h0]
    exact eq_of_beq h
  · cases h
theorem rdN_bd (l : Bs) : -9223372036854775808 ≤ rdN l ∧ rdN l ≤ 9223372036854775807 := by
  unfold rdN
  split
  · rename_i v hv
    rw [Go.Lib.parseIntB_64] at hv
    exact Go.Lib.atoiAll_bounds hv
  · rw [Go.Lib.intSat_64]
    exact Go.Lib.atoiSat_bounds l
  · omega
def shN (l : Bs) : Int := if (rdOk l && inR (rdN l) 0 32767) = true then rdN l else -1
theorem shN_dg {n : Int} (h0 : 0 ≤ n) (h1 : n ≤ 32767) : shN (dg n) = n := by
  obtain ⟨e1, e2⟩ := rd_dg h0 (by omega : n < 1000000000000000000)
  unfold shN
  rw [e1, e2, if_pos]
  simp [inR]
  omega
theorem shN_bd (l : Bs) : -1 ≤ shN l ∧ shN l ≤ 32767 := by
  unfold shN
  split
  · rename_i h
    simp only [Bool.and_eq_true, inR, decide_eq_true_eq] at h
    omega
  · omega
end Go.Proofs.YtgibcacciedobaaDoor
