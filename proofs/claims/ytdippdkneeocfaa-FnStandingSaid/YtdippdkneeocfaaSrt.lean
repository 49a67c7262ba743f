/- Stable sorting in plain lists: sorted lists of the same elements are the same; insertion, rotation, merging by halves. No condition. -/
namespace Go.Proofs.Ytdippdkneeocfaa.Srt
set_option linter.unusedVariables false
set_option linter.unusedSimpArgs false
variable {α : Type}
/-- A weak order, as a test. -/
structure Wk (lt : α → α → Bool) : Prop where
  asym : ∀ x y, lt x y = true → lt y x = false
  ntr : ∀ x y z, lt x y = false → lt y z = false → lt x z = false
def eqv (lt : α → α → Bool) (c x : α) : Bool := !lt c x && !lt x c
/-- The same elements, equal ones in the same order. -/
def Stab (lt : α → α → Bool) (L L' : List α) : Prop := ∀ c, L.filter (eqv lt c) = L'.filter (eqv lt c)
def Up (lt : α → α → Bool) (L : List α) : Prop := L.Pairwise (fun x y => lt y x = false)
theorem Stab.refl (lt : α → α → Bool) (L : List α) : Stab lt L L := fun _ => rfl
theorem Stab.trans {lt : α → α → Bool} {A B C : List α} (h : Stab lt A B) (k : Stab lt B C) : Stab lt A C := fun c => (h c).trans (k c)
theorem Stab.symm {lt : α → α → Bool} {A B : List α} (h : Stab lt A B) : Stab lt B A := fun c => (h c).symm
theorem Stab.app {lt : α → α → Bool} {A B C D : List α} (h : Stab lt A B) (k : Stab lt C D) : Stab lt (A ++ C) (B ++ D) := fun c => by
  rw [List.filter_append, List.filter_append, h c, k c]
theorem Wk.irr {lt : α → α → Bool} (h : Wk lt) (x : α) : lt x x = false := by
  cases e : lt x x
  · rfl
  · have := h.asym x x e; rw [e] at this; exact this
theorem Wk.tr {lt : α → α → Bool} (h : Wk lt) {x y z : α} (h1 : lt x y = true) (h2 : lt y z = true) : lt x z = true := by
  cases e : lt x z
  · have := h.ntr x z y e (h.asym y z h2); rw [h1] at this; cases this
  · rfl
theorem Wk.tr1 {lt : α → α → Bool} (h : Wk lt) {x y z : α} (h1 : lt x y = true) (h2 : lt z y = false) : lt x z = true := by
  cases e : lt x z
  · have := h.ntr x z y e h2; rw [h1] at this; cases this
  · rfl
theorem Wk.tr2 {lt : α → α → Bool} (h : Wk lt) {x y z : α} (h1 : lt y x = false) (h2 : lt y z = true) : lt x z = true := by
  cases e : lt x z
  · have := h.ntr y x z h1 e; rw [h2] at this; cases this
  · rfl
theorem eqv_self {lt : α → α → Bool} (h : Wk lt) (x : α) : eqv lt x x = true := by simp [eqv, h.irr]
/-- Two blocks change places: each element behind is below each one ahead. -/
theorem stab_blocks {lt : α → α → Bool} (h : Wk lt) {X Y : List α} (hs : ∀ x, x ∈ X → ∀ y, y ∈ Y → lt y x = true) : Stab lt (X ++ Y) (Y ++ X) := by
  intro c
  rw [List.filter_append, List.filter_append]
  by_cases hx : X.filter (eqv lt c) = []
  · rw [hx]; simp
  · by_cases hy : Y.filter (eqv lt c) = []
    · rw [hy]; simp
    · exfalso
      obtain ⟨x, hx'⟩ := List.exists_mem_of_ne_nil _ hx
      obtain ⟨y, hy'⟩ := List.exists_mem_of_ne_nil _ hy
      rw [List.mem_filter] at hx' hy'
      have h1 := hs x hx'.1 y hy'.1
      have h2 := hx'.2
      have h3 := hy'.2
      simp only [eqv, Bool.and_eq_true, Bool.not_eq_true'] at h2 h3
      have h4 := h.ntr y c x h3.2 h2.1
      rw [h1] at h4; cases h4
/-- Sorted lists of the same elements are the same. -/
theorem up_unique {lt : α → α → Bool} (h : Wk lt) : ∀ (L L' : List α), Up lt L → Up lt L' → Stab lt L L' → L = L' := by
  intro L
  induction L with
  | nil =>
    intro L' _ _ hs
    cases L' with
    | nil => rfl
    | cons y L' =>
      have := hs y
      rw [List.filter_cons_of_pos (eqv_self h y)] at this
      cases this
  | cons x L ih =>
    intro L' hu hu' hs
    cases L' with
    | nil =>
      have := hs x
      rw [List.filter_cons_of_pos (eqv_self h x)] at this
      cases this
    | cons y L' =>
      have hxm : x ∈ y :: L' := by
        have : x ∈ (y :: L').filter (eqv lt x) := by rw [← hs x, List.filter_cons_of_pos (eqv_self h x)]; exact List.mem_cons_self
        exact (List.mem_filter.1 this).1
      have hym : y ∈ x :: L := by
        have : y ∈ (x :: L).filter (eqv lt y) := by rw [hs y, List.filter_cons_of_pos (eqv_self h y)]; exact List.mem_cons_self
        exact (List.mem_filter.1 this).1
      have h1 : lt x y = false := by
        rcases List.mem_cons.1 hxm with rfl | hm
        · exact h.irr _
        · exact (List.pairwise_cons.1 hu').1 x hm
      have h2 : lt y x = false := by
        rcases List.mem_cons.1 hym with rfl | hm
        · exact h.irr _
        · exact (List.pairwise_cons.1 hu).1 y hm
      have hxy : x = y := by
        have := hs x
        rw [List.filter_cons_of_pos (eqv_self h x), List.filter_cons_of_pos (by simp [eqv, h1, h2])] at this
        injection this
      subst hxy
      congr 1
      refine ih L' (List.pairwise_cons.1 hu).2 (List.pairwise_cons.1 hu').2 (fun c => ?_)
      have := hs c
      rw [List.filter_cons, List.filter_cons] at this
      split at this
      · injection this
      · exact this
theorem Stab.length {lt : α → α → Bool} (h : Wk lt) : ∀ {L L' : List α}, Stab lt L L' → L.length = L'.length := by
  intro L
  induction L with
  | nil =>
    intro L' hs
    cases L' with
    | nil => rfl
    | cons y L' =>
      have := hs y
      rw [List.filter_cons_of_pos (eqv_self h y)] at this
      cases this
  | cons x L ih =>
    intro L' hs
    have hx := hs x
    rw [List.filter_cons_of_pos (eqv_self h x)] at hx
    have hm : x ∈ L' := by
      have : x ∈ L'.filter (eqv lt x) := by rw [← hx]; exact List.mem_cons_self
      exact (List.mem_filter.1 this).1
    -- the first element of the class of x in L'
    obtain ⟨A, B, hAB, hA⟩ : ∃ A B, L' = A ++ x :: B ∧ ∀ a, a ∈ A → eqv lt x a = false := by
      clear ih hs hm
      induction L' with
      | nil => simp at hx
      | cons y L' ih =>
        cases e : eqv lt x y with
        | true =>
          rw [List.filter_cons_of_pos e] at hx
          injection hx with h1 h2
          subst h1
          exact ⟨[], L', rfl, fun a ha => by cases ha⟩
        | false =>
          rw [List.filter_cons_of_neg (by simp [e])] at hx
          obtain ⟨A, B, h1, h2⟩ := ih hx
          exact ⟨y :: A, B, by rw [h1]; rfl, fun a ha => by rcases List.mem_cons.1 ha with rfl | ha; exact e; exact h2 a ha⟩
    subst hAB
    have : Stab lt L (A ++ B) := fun c => by
      have hc := hs c
      rw [List.filter_append] at hc
      cases e : eqv lt c x with
      | false =>
        rw [List.filter_cons_of_neg (by simp [e]), List.filter_cons_of_neg (by simp [e])] at hc
        rw [hc, List.filter_append]
      | true =>
        have hAc : A.filter (eqv lt c) = [] := by
          rw [List.filter_eq_nil_iff]
          intro a ha
          have h1 := hA a ha
          intro h2
          simp only [eqv, Bool.and_eq_true, Bool.not_eq_true', Bool.and_eq_false_iff, Bool.not_eq_false'] at e h1 h2
          rcases h1 with h1 | h1
          · have := h.ntr x c a e.2 h2.1; rw [h1] at this; cases this
          · have := h.ntr a c x h2.2 e.1; rw [h1] at this; cases this
        rw [hAc, List.nil_append, List.filter_cons_of_pos e, List.filter_cons_of_pos e] at hc
        injection hc with _ hc
        rw [List.filter_append, hAc, List.nil_append, hc]
    have := ih this
    simp only [List.length_append, List.length_cons] at this ⊢
    omega
theorem Stab.mem {lt : α → α → Bool} (h : Wk lt) {L L' : List α} (hs : Stab lt L L') (x : α) : x ∈ L ↔ x ∈ L' := by
  have a := hs x
  have b : ∀ M : List α, x ∈ M ↔ x ∈ M.filter (eqv lt x) := fun M => by rw [List.mem_filter]; simp [eqv_self h]
  rw [b L, b L', a]
/-- Two elements change places. -/
def swp (L : List α) (i j : Nat) : List α := match L[i]?, L[j]? with
  | some x, some y => (L.set i y).set j x
  | _, _ => L
theorem swp_at {L : List α} {i j : Nat} {x y : α} (h : L[i]? = some x) (k : L[j]? = some y) : swp L i j = (L.set i y).set j x := by unfold swp; rw [h, k]
theorem at_mid (A B : List α) (x : α) : (A ++ x :: B)[A.length]? = some x := by simp
theorem set_mid (A B : List α) (x y : α) : (A ++ x :: B).set A.length y = A ++ y :: B := by
  rw [List.set_append_right _ _ (Nat.le_refl _), Nat.sub_self]; rfl
theorem swp_mid (A M B : List α) (x y : α) : swp (A ++ x :: (M ++ y :: B)) A.length (A.length + 1 + M.length) = A ++ y :: (M ++ x :: B) := by
  have h1 : (A ++ x :: (M ++ y :: B))[A.length]? = some x := at_mid _ _ _
  have e : ∀ z : α, A ++ z :: (M ++ y :: B) = (A ++ z :: M) ++ y :: B := fun z => by simp
  have el : ∀ z : α, (A ++ z :: M).length = A.length + 1 + M.length := fun z => by simp; omega
  have h2 : (A ++ x :: (M ++ y :: B))[A.length + 1 + M.length]? = some y := by rw [e x, ← el x]; exact at_mid _ _ _
  rw [swp_at h1 h2, set_mid, e y, ← el y, set_mid]
  simp
theorem swp_len (L : List α) (i j : Nat) : (swp L i j).length = L.length := by
  unfold swp; split <;> simp
/-- n elements from a on change places with those from b on. -/
def swapF (L : List α) (a b : Nat) : Nat → List α
  | 0 => L
  | n + 1 => swapF (swp L a b) (a + 1) (b + 1) n
theorem swapF_blocks : ∀ (P R A M B : List α), P.length = R.length → swapF (A ++ (P ++ (M ++ (R ++ B)))) A.length (A.length + P.length + M.length) P.length = A ++ (R ++ (M ++ (P ++ B))) := by
  intro P
  induction P with
  | nil => intro R A M B h; cases R with | nil => rfl | cons r R => cases h
  | cons p P ih =>
    intro R A M B h
    cases R with
    | nil => cases h
    | cons r R =>
      have hl : P.length = R.length := by simpa using h
      rw [List.length_cons, swapF]
      have e1 : A ++ (p :: P ++ (M ++ (r :: R ++ B))) = A ++ p :: ((P ++ M) ++ r :: (R ++ B)) := by simp
      have e2 : A.length + (P.length + 1) + M.length = A.length + 1 + (P ++ M).length := by simp; omega
      rw [e1, e2, swp_mid]
      have e3 : A ++ r :: (P ++ M ++ p :: (R ++ B)) = (A ++ [r]) ++ (P ++ ((M ++ [p]) ++ (R ++ B))) := by simp
      have e4 : A.length + 1 = (A ++ [r]).length := by simp
      have e5 : A.length + 1 + (P ++ M).length + 1 = (A ++ [r]).length + P.length + (M ++ [p]).length := by simp; omega
      rw [e3, e5, e4, ih R (A ++ [r]) (M ++ [p]) B hl]
      simp
/-- The elements from s on and those from m on, up to e, change places. -/
def rotd (L : List α) (s m e : Nat) : List α := L.take s ++ ((L.take e).drop m ++ ((L.take m).drop s ++ L.drop e))
theorem rotd_blocks (A X Y B : List α) : rotd (A ++ (X ++ (Y ++ B))) A.length (A.length + X.length) (A.length + X.length + Y.length) = A ++ (Y ++ (X ++ B)) := by
  unfold rotd
  have t1 : (A ++ (X ++ (Y ++ B))).take A.length = A := by simp
  have t2 : (A ++ (X ++ (Y ++ B))).take (A.length + X.length) = A ++ X := by
    rw [← List.append_assoc, ← List.length_append, List.take_left']; rfl
  have t3 : (A ++ (X ++ (Y ++ B))).take (A.length + X.length + Y.length) = A ++ X ++ Y := by
    rw [← List.append_assoc, ← List.append_assoc, ← List.length_append, ← List.length_append, List.take_left']; rfl
  have t4 : (A ++ (X ++ (Y ++ B))).drop (A.length + X.length + Y.length) = B := by
    rw [← List.append_assoc, ← List.append_assoc, ← List.length_append, ← List.length_append, List.drop_left']; rfl
  rw [t1, t2, t3, t4]
  congr 1
  congr 1
  · rw [← List.length_append, List.drop_left']; rfl
  · congr 1
    rw [List.drop_left']; rfl
/-- A list, cut at four places. -/
theorem cut4 (L : List α) {a b c : Nat} (h1 : a ≤ b) (h2 : b ≤ c) (h3 : c ≤ L.length) : ∃ A X Y B, L = A ++ (X ++ (Y ++ B)) ∧ A.length = a ∧ X.length = b - a ∧ Y.length = c - b := by
  refine ⟨L.take a, (L.drop a).take (b - a), (L.drop b).take (c - b), L.drop c, ?_, ?_, ?_, ?_⟩
  · have e1 : L = L.take a ++ L.drop a := (List.take_append_drop a L).symm
    have e2 : L.drop a = (L.drop a).take (b - a) ++ L.drop b := by
      have := (List.take_append_drop (b - a) (L.drop a)).symm
      rwa [List.drop_drop, show a + (b - a) = b by omega] at this
    have e3 : L.drop b = (L.drop b).take (c - b) ++ L.drop c := by
      have := (List.take_append_drop (c - b) (L.drop b)).symm
      rwa [List.drop_drop, show b + (c - b) = c by omega] at this
    rw [← e3, ← e2, ← e1]
  · rw [List.length_take]; omega
  · rw [List.length_take, List.length_drop]; omega
  · rw [List.length_take, List.length_drop]; omega

theorem rot_gt {C : List α} {i j m : Nat} (h : j < i) (hi : i ≤ m) (hl : m + j ≤ C.length) : rotd (swapF C (m - i) m j) (m - i + j) m (m + j) = rotd C (m - i) m (m + j) := by
  obtain ⟨A, X, Y, B, rfl, hA, hX, hY⟩ := cut4 C (show m - i ≤ m by omega) (show m ≤ m + j by omega) hl
  obtain ⟨P, Q, rfl, hP⟩ : ∃ P Q, X = P ++ Q ∧ P.length = j := ⟨X.take j, X.drop j, (List.take_append_drop _ _).symm, by rw [List.length_take]; omega⟩
  simp only [List.length_append] at hX
  have e1 : A ++ (P ++ Q ++ (Y ++ B)) = A ++ (P ++ (Q ++ (Y ++ B))) := by simp
  have s1 := swapF_blocks P Y A Q B (by omega)
  rw [hA, show m - i + P.length + Q.length = m by omega, hP] at s1
  have r1 := rotd_blocks A (P ++ Q) Y B
  rw [hA, show m - i + (P ++ Q).length = m by rw [List.length_append]; omega, show m + Y.length = m + j by omega] at r1
  rw [r1, e1, s1]
  have r2 := rotd_blocks (A ++ Y) Q P B
  rw [show (A ++ Y).length = m - i + j by rw [List.length_append]; omega, show m - i + j + Q.length = m by omega, hP] at r2
  rw [show A ++ (Y ++ (Q ++ (P ++ B))) = A ++ Y ++ (Q ++ (P ++ B)) by simp, r2]
  simp
theorem rot_lt {C : List α} {i j m : Nat} (h : i < j) (hi : i ≤ m) (hl : m + j ≤ C.length) : rotd (swapF C (m - i) (m + j - i) i) (m - i) m (m + (j - i)) = rotd C (m - i) m (m + j) := by
  obtain ⟨A, X, Y, B, rfl, hA, hX, hY⟩ := cut4 C (show m - i ≤ m by omega) (show m ≤ m + j by omega) hl
  obtain ⟨Q, R, rfl, hQ⟩ : ∃ Q R, Y = Q ++ R ∧ Q.length = j - i := ⟨Y.take (j - i), Y.drop (j - i), (List.take_append_drop _ _).symm, by rw [List.length_take]; omega⟩
  simp only [List.length_append] at hY
  have s1 := swapF_blocks X R A Q B (by omega)
  rw [hA, show m - i + X.length + Q.length = m + j - i by omega, show X.length = i by omega] at s1
  have r1 := rotd_blocks A X (Q ++ R) B
  rw [hA, show m - i + X.length = m by omega, show m + (Q ++ R).length = m + j by rw [List.length_append]; omega] at r1
  rw [r1, show A ++ (X ++ (Q ++ R ++ B)) = A ++ (X ++ (Q ++ (R ++ B))) by simp, s1]
  have r2 := rotd_blocks A R Q (X ++ B)
  rw [hA, show m - i + R.length = m by omega, show m + Q.length = m + (j - i) by omega] at r2
  rw [r2]
  simp
theorem rot_eq {C : List α} {i m : Nat} (hi : i ≤ m) (hl : m + i ≤ C.length) : swapF C (m - i) m i = rotd C (m - i) m (m + i) := by
  obtain ⟨A, X, Y, B, rfl, hA, hX, hY⟩ := cut4 C (show m - i ≤ m by omega) (show m ≤ m + i by omega) hl
  have s1 := swapF_blocks X Y A [] B (by omega)
  rw [hA, show m - i + X.length + ([] : List α).length = m by simp; omega, show X.length = i by omega] at s1
  have r1 := rotd_blocks A X Y B
  rw [hA, show m - i + X.length = m by omega, show m + Y.length = m + i by omega] at r1
  rw [r1]
  simpa using s1
theorem swapF_len (L : List α) : ∀ (n a b : Nat), (swapF L a b n).length = L.length := by
  intro n
  induction n generalizing L with
  | zero => intro a b; rfl
  | succ n ih => intro a b; rw [swapF, ih, swp_len]
theorem rotd_len (L : List α) {s m e : Nat} (h1 : s ≤ m) (h2 : m ≤ e) (h3 : e ≤ L.length) : (rotd L s m e).length = L.length := by
  unfold rotd
  simp only [List.length_append, List.length_take, List.length_drop]
  omega
/-- Of [a, b) the list L' is the sorted form of L; beyond it they are the same. -/
def Done (lt : α → α → Bool) (a b : Nat) (L L' : List α) : Prop := ∃ A S S' B, L = A ++ (S ++ B) ∧ L' = A ++ (S' ++ B) ∧ A.length = a ∧ A.length + S.length = b ∧ Stab lt S S' ∧ Up lt S'
theorem Done.len {lt : α → α → Bool} (hw : Wk lt) {a b : Nat} {L L' : List α} (h : Done lt a b L L') : L'.length = L.length := by
  obtain ⟨A, S, S', B, rfl, rfl, _, _, hs, _⟩ := h
  have := hs.length hw
  simp only [List.length_append]
  omega
/-- One element, from behind, to its place. -/
def insF (lt : α → α → Bool) (L : List α) (a : Nat) : Nat → List α
  | 0 => L
  | j + 1 => match L[j + 1]?, L[j]? with
    | some x, some y => if a < j + 1 ∧ lt x y = true then insF lt (swp L (j + 1) j) a j else L
    | _, _ => L
theorem swp_next (A B : List α) (x y : α) : swp (A ++ y :: x :: B) (A.length + 1) A.length = A ++ x :: y :: B := by
  have h1 : (A ++ y :: x :: B)[A.length]? = some y := at_mid _ _ _
  have e : ∀ z u : α, A ++ z :: u :: B = (A ++ [z]) ++ u :: B := fun z u => by simp
  have h2 : (A ++ y :: x :: B)[A.length + 1]? = some x := by rw [e, show A.length + 1 = (A ++ [y]).length by simp]; exact at_mid _ _ _
  rw [swp_at h2 h1, e y x, show A.length + 1 = (A ++ [y]).length by simp, set_mid, ← e, set_mid]
theorem insF_spec {lt : α → α → Bool} (hw : Wk lt) : ∀ (n : Nat) (S A B : List α) (x : α), S.length = n → Up lt S → ∃ S', insF lt (A ++ (S ++ x :: B)) A.length (A.length + n) = A ++ (S' ++ B) ∧ Up lt S' ∧ Stab lt (S ++ [x]) S' := by
  intro n
  induction n with
  | zero =>
    intro S A B x hn hu
    have : S = [] := List.eq_nil_of_length_eq_zero hn
    subst this
    refine ⟨[x], ?_, by simp [Up], Stab.refl _ _⟩
    rw [Nat.add_zero]
    cases hA : A.length with
    | zero => rfl
    | succ k =>
      unfold insF
      split
      · rw [if_neg (by omega)]; rfl
      · rfl
  | succ n ih =>
    intro S A B x hn hu
    obtain ⟨T, y, rfl⟩ : ∃ T y, S = T ++ [y] := by
      have hne : S ≠ [] := by intro h; rw [h] at hn; simp at hn
      exact ⟨S.dropLast, S.getLast hne, (List.dropLast_concat_getLast hne).symm⟩
    have hT : T.length = n := by simpa using hn
    have hup := List.pairwise_append.1 hu
    have e0 : A ++ (T ++ [y] ++ x :: B) = (A ++ T) ++ y :: x :: B := by simp
    have h1 : ((A ++ T) ++ y :: x :: B)[A.length + n]? = some y := by rw [show A.length + n = (A ++ T).length by simp [hT]]; exact at_mid _ _ _
    have h2 : ((A ++ T) ++ y :: x :: B)[A.length + n + 1]? = some x := by
      rw [show (A ++ T) ++ y :: x :: B = (A ++ T ++ [y]) ++ x :: B by simp, show A.length + n + 1 = (A ++ T ++ [y]).length by simp [hT]; omega]; exact at_mid _ _ _
    rw [e0, show A.length + (n + 1) = A.length + n + 1 by omega]
    unfold insF
    rw [h1, h2]
    simp only
    by_cases hlt : lt x y = true
    · rw [if_pos ⟨by omega, hlt⟩]
      have hsw := swp_next (A ++ T) B x y
      rw [show (A ++ T).length = A.length + n by simp [hT]] at hsw
      rw [hsw]
      obtain ⟨T', g1, g2, g3⟩ := ih T A (y :: B) x hT hup.1
      rw [show (A ++ T) ++ x :: y :: B = A ++ (T ++ x :: (y :: B)) by simp, g1]
      refine ⟨T' ++ [y], by simp, ?_, ?_⟩
      · refine List.pairwise_append.2 ⟨g2, by simp, fun u hu' z hz => ?_⟩
        obtain rfl : z = y := by simpa using hz
        have hm := (g3.mem hw u).2 hu'
        rcases List.mem_append.1 hm with hm | hm
        · exact hup.2.2 u hm _ (by simp)
        · obtain rfl : u = x := by simpa using hm
          exact hw.asym _ _ hlt
      · have : Stab lt (T ++ ([y] ++ [x])) (T ++ ([x] ++ [y])) := Stab.app (Stab.refl _ _) (stab_blocks hw (fun u hu v hv => by
          obtain rfl : u = y := by simpa using hu
          obtain rfl : v = x := by simpa using hv
          exact hlt))
        refine Stab.trans (by simpa using this) ?_
        have := Stab.app g3 (Stab.refl lt [y])
        simpa using this
    · rw [if_neg (by simp [hlt])]
      refine ⟨T ++ [y] ++ [x], by simp, ?_, Stab.refl _ _⟩
      have hxy : lt x y = false := by simpa using hlt
      refine List.pairwise_append.2 ⟨hu, by simp, fun u hu' z hz => ?_⟩
      obtain rfl : z = x := by simpa using hz
      rcases List.mem_append.1 hu' with hm | hm
      · have := hup.2.2 u hm y (by simp)
        exact hw.ntr _ _ _ hxy this
      · obtain rfl : u = y := by simpa using hm
        exact hxy
/-- The elements from i on, one after the other, to their places. -/
def insS (lt : α → α → Bool) (L : List α) (a i : Nat) : Nat → List α
  | 0 => L
  | g + 1 => insS lt (insF lt L a i) a (i + 1) g
theorem insS_spec {lt : α → α → Bool} (hw : Wk lt) : ∀ (g : Nat) (S R A B : List α), R.length = g → Up lt S → ∃ S', insS lt (A ++ (S ++ (R ++ B))) A.length (A.length + S.length) g = A ++ (S' ++ B) ∧ Up lt S' ∧ Stab lt (S ++ R) S' := by
  intro g
  induction g with
  | zero =>
    intro S R A B hg hu
    have : R = [] := List.eq_nil_of_length_eq_zero hg
    subst this
    exact ⟨S, by simp [insS], hu, by simpa using Stab.refl lt S⟩
  | succ g ih =>
    intro S R A B hg hu
    cases R with
    | nil => cases hg
    | cons x R =>
      obtain ⟨T, g1, g2, g3⟩ := insF_spec hw S.length S A (R ++ B) x rfl hu
      rw [insS, show A ++ (S ++ (x :: R ++ B)) = A ++ (S ++ x :: (R ++ B)) by simp, g1]
      have hl := g3.length hw
      simp only [List.length_append, List.length_cons, List.length_nil] at hl
      obtain ⟨S', k1, k2, k3⟩ := ih T R A B (by simpa using hg) g2
      rw [show A.length + S.length + 1 = A.length + T.length by omega, k1]
      refine ⟨S', rfl, k2, Stab.trans ?_ k3⟩
      have := Stab.app g3 (Stab.refl lt R)
      simpa using this
theorem insS_done {lt : α → α → Bool} (hw : Wk lt) (L : List α) {a b : Nat} (h1 : a ≤ b) (h2 : b ≤ L.length) : Done lt a b L (insS lt L a (a + 1) (b - (a + 1))) := by
  obtain ⟨A, X, Y, B, rfl, hA, hX, hY⟩ := cut4 L (Nat.le_refl a) h1 h2
  have : X = [] := List.eq_nil_of_length_eq_zero (by omega)
  subst this
  simp only [List.nil_append] at *
  cases Y with
  | nil =>
    have hb : b = a := by simp at hY; omega
    subst hb
    refine ⟨A, [], [], B, rfl, ?_, hA, by simpa using hA, Stab.refl _ _, by simp [Up]⟩
    rw [show b - (b + 1) = 0 by omega]; rfl
  | cons y Y =>
    simp only [List.length_cons] at hY
    obtain ⟨S', k1, k2, k3⟩ := insS_spec hw (b - (a + 1)) [y] Y A B (by omega) (by simp [Up])
    refine ⟨A, y :: Y, S', B, rfl, ?_, hA, by simp; omega, by simpa using k3, k2⟩
    rw [← k1, ← hA]
    simp

/-- The order of two places of a list. -/
def ltAt (lt : α → α → Bool) (L : List α) (h k : Nat) : Bool := match L[h]?, L[k]? with
  | some x, some y => lt x y
  | _, _ => false
theorem ltAt_of {lt : α → α → Bool} {L : List α} {h k : Nat} {x y : α} (hx : L[h]? = some x) (hy : L[k]? = some y) : ltAt lt L h k = lt x y := by unfold ltAt; rw [hx, hy]
/-- The places from a to b are sorted. -/
def Seg (lt : α → α → Bool) (L : List α) (a b : Nat) : Prop := ∀ i j, a ≤ i → i < j → j < b → ltAt lt L j i = false
/-- A search by halves: p is so up to i, and not so from j on. -/
def Half (p : Nat → Bool) (i0 j0 i j : Nat) : Prop := i0 ≤ i ∧ i ≤ j ∧ j ≤ j0 ∧ (∀ k, i0 ≤ k → k < i → p k = true) ∧ (∀ k, j ≤ k → k < j0 → p k = false)
def Falls (p : Nat → Bool) (i0 j0 : Nat) : Prop := ∀ k l, i0 ≤ k → k < l → l < j0 → p l = true → p k = true
theorem Half.start {p : Nat → Bool} {i0 j0 : Nat} (h : i0 ≤ j0) : Half p i0 j0 i0 j0 := ⟨Nat.le_refl _, h, Nat.le_refl _, fun k h1 h2 => absurd h2 (by omega), fun k h1 h2 => absurd h2 (by omega)⟩
theorem Half.yes {p : Nat → Bool} {i0 j0 i j h : Nat} (hh : Half p i0 j0 i j) (hf : Falls p i0 j0) (h1 : i ≤ h) (h2 : h < j) (hp : p h = true) : Half p i0 j0 (h + 1) j := by
  obtain ⟨a, b, c, d, e⟩ := hh
  refine ⟨by omega, by omega, c, fun k h3 h4 => ?_, e⟩
  by_cases e : k = h
  · rw [e]; exact hp
  · exact hf k h h3 (by omega) (by omega) hp
theorem Half.no {p : Nat → Bool} {i0 j0 i j h : Nat} (hh : Half p i0 j0 i j) (hf : Falls p i0 j0) (h1 : i ≤ h) (h2 : h < j) (hp : p h = false) : Half p i0 j0 i h := by
  obtain ⟨a, b, c, d, e⟩ := hh
  refine ⟨a, h1, by omega, d, fun k h3 h4 => ?_⟩
  by_cases e : k = h
  · rw [e]; exact hp
  · cases hk : p k
    · rfl
    · have := hf h k (by omega) (by omega) h4 hk
      rw [hp] at this; cases this
/-- An element goes up g places. -/
def upF (L : List α) (k : Nat) : Nat → List α
  | 0 => L
  | g + 1 => upF (swp L k (k + 1)) (k + 1) g
theorem swp_prev (A B : List α) (x y : α) : swp (A ++ x :: y :: B) A.length (A.length + 1) = A ++ y :: x :: B := by
  have := swp_mid A [] B x y
  simpa using this
theorem upF_blocks (x : α) : ∀ (Y A B : List α), upF (A ++ x :: (Y ++ B)) A.length Y.length = A ++ (Y ++ x :: B) := by
  intro Y
  induction Y with
  | nil => intro A B; rfl
  | cons y Y ih =>
    intro A B
    rw [List.length_cons, upF, show A ++ x :: (y :: Y ++ B) = A ++ x :: y :: (Y ++ B) by simp, swp_prev]
    have := ih (A ++ [y]) B
    rw [show A.length + 1 = (A ++ [y]).length by simp, show A ++ y :: x :: (Y ++ B) = A ++ [y] ++ x :: (Y ++ B) by simp, this]
    simp
theorem upF_len (L : List α) (k g : Nat) : (upF L k g).length = L.length := by
  induction g generalizing L k with
  | zero => rfl
  | succ g ih => rw [upF, ih, swp_len]
/-- An element goes down g places. -/
def downF (L : List α) (k : Nat) : Nat → List α
  | 0 => L
  | g + 1 => downF (swp L k (k - 1)) (k - 1) g
theorem downF_blocks (x : α) : ∀ (n : Nat) (Y A B : List α), Y.length = n → downF (A ++ (Y ++ x :: B)) (A.length + n) n = A ++ x :: (Y ++ B) := by
  intro n
  induction n with
  | zero =>
    intro Y A B h
    have : Y = [] := List.eq_nil_of_length_eq_zero h
    subst this
    rfl
  | succ n ih =>
    intro Y A B h
    obtain ⟨T, y, rfl⟩ : ∃ T y, Y = T ++ [y] := by
      have hne : Y ≠ [] := by intro h'; rw [h'] at h; simp at h
      exact ⟨Y.dropLast, Y.getLast hne, (List.dropLast_concat_getLast hne).symm⟩
    have hT : T.length = n := by simpa using h
    rw [downF, show A.length + (n + 1) - 1 = A.length + n by omega, show A.length + (n + 1) = (A ++ T).length + 1 by simp [hT]; omega, show A ++ (T ++ [y] ++ x :: B) = A ++ T ++ y :: x :: B by simp]
    have e := swp_next (A ++ T) B x y
    rw [show A.length + n = (A ++ T).length by simp [hT], e, show (A ++ T).length = A.length + n by simp [hT], show A ++ T ++ x :: y :: B = A ++ (T ++ x :: (y :: B)) by simp, ih T A (y :: B) hT]
    simp
theorem downF_len (L : List α) (k g : Nat) : (downF L k g).length = L.length := by
  induction g generalizing L k with
  | zero => rfl
  | succ g ih => rw [downF, ih, swp_len]
theorem seg_up {lt : α → α → Bool} {A S B : List α} (h : Seg lt (A ++ (S ++ B)) A.length (A.length + S.length)) : Up lt S := by
  unfold Up
  rw [List.pairwise_iff_getElem]
  intro i j hi hj hij
  have := h (A.length + i) (A.length + j) (by omega) (by omega) (by omega)
  have g : ∀ k (hk : k < S.length), (A ++ (S ++ B))[A.length + k]? = some S[k] := fun k hk => by
    rw [List.getElem?_append_right (by omega), Nat.add_sub_cancel_left, List.getElem?_append_left hk, List.getElem?_eq_getElem hk]
  rwa [ltAt_of (g j hj) (g i hi)] at this
theorem up_seg {lt : α → α → Bool} {A S B : List α} (h : Up lt S) : Seg lt (A ++ (S ++ B)) A.length (A.length + S.length) := by
  intro i j h1 h2 h3
  have g : ∀ k (hk : k < S.length), (A ++ (S ++ B))[A.length + k]? = some S[k] := fun k hk => by
    rw [List.getElem?_append_right (by omega), Nat.add_sub_cancel_left, List.getElem?_append_left hk, List.getElem?_eq_getElem hk]
  have h' := List.pairwise_iff_getElem.1 h (i - A.length) (j - A.length) (by omega) (by omega) (by omega)
  have gi := g (i - A.length) (by omega)
  have gj := g (j - A.length) (by omega)
  rw [show A.length + (i - A.length) = i by omega] at gi
  rw [show A.length + (j - A.length) = j by omega] at gj
  rw [ltAt_of gj gi]
  exact h'
/-- What a merge begins with. -/
def Pre (lt : α → α → Bool) (L : List α) (a m b : Nat) : Prop := ∃ A X Y B, L = A ++ (X ++ (Y ++ B)) ∧ A.length = a ∧ A.length + X.length = m ∧ A.length + X.length + Y.length = b ∧ Up lt X ∧ Up lt Y
theorem Pre.bounds {lt : α → α → Bool} {L : List α} {a m b : Nat} (h : Pre lt L a m b) : a ≤ m ∧ m ≤ b ∧ b ≤ L.length := by
  obtain ⟨A, X, Y, B, rfl, h1, h2, h3, _⟩ := h
  simp only [List.length_append]
  omega
theorem Pre.segs {lt : α → α → Bool} {L : List α} {a m b : Nat} (h : Pre lt L a m b) : Seg lt L a m ∧ Seg lt L m b := by
  obtain ⟨A, X, Y, B, rfl, h1, h2, h3, h4, h5⟩ := h
  refine ⟨?_, ?_⟩
  · have := up_seg (A := A) (B := Y ++ B) h4
    rw [h2] at this
    rwa [← h1]
  · have := up_seg (A := A ++ X) (B := B) h5
    rw [List.length_append, h2, show m + Y.length = b by omega] at this
    simpa using this
/-- A merge of an empty side. -/
theorem Pre.done {lt : α → α → Bool} {L : List α} {a m b : Nat} (h : Pre lt L a m b) (hs : a = m ∨ m = b) : Done lt a b L L := by
  obtain ⟨A, X, Y, B, rfl, h1, h2, h3, h4, h5⟩ := h
  refine ⟨A, X ++ Y, X ++ Y, B, by simp, by simp, h1, by rw [List.length_append]; omega, Stab.refl _ _, ?_⟩
  rcases hs with hs | hs
  · have : X = [] := List.eq_nil_of_length_eq_zero (by omega)
    subst this; simpa using h5
  · have : Y = [] := List.eq_nil_of_length_eq_zero (by omega)
    subst this; simpa using h4
/-- One element on the left: it goes up to its place r. -/
theorem merge_left {lt : α → α → Bool} (hw : Wk lt) {L : List α} {a b r : Nat} (h : Pre lt L a (a + 1) b) (hh : Half (fun k => ltAt lt L k a) (a + 1) b r r) : Done lt a b L (upF L a (r - (a + 1))) := by
  obtain ⟨A, X, Y, B, rfl, h1, h2, h3, h4, h5⟩ := h
  subst h1
  obtain ⟨x, rfl⟩ : ∃ x, X = [x] := by
    match X, h2 with
    | [x], _ => exact ⟨x, rfl⟩
    | [], h => simp at h
    | _ :: _ :: _, h => simp at h
  obtain ⟨b0, _, b1, hlo, hhi⟩ := hh
  obtain ⟨Y1, Y2, rfl, hY⟩ : ∃ P Q, Y = P ++ Q ∧ P.length = r - (A.length + 1) := ⟨Y.take (r - (A.length + 1)), Y.drop (r - (A.length + 1)), (List.take_append_drop _ _).symm, by rw [List.length_take]; simp at h3; omega⟩
  simp only [List.length_append, List.length_cons, List.length_nil] at h3
  have hx : (A ++ ([x] ++ (Y1 ++ Y2 ++ B)))[A.length]? = some x := by simp
  have hy : ∀ k (hk : k < Y1.length), (A ++ ([x] ++ (Y1 ++ Y2 ++ B)))[A.length + 1 + k]? = some Y1[k] := fun k hk => by
    rw [List.getElem?_append_right (by omega), show A.length + 1 + k - A.length = k + 1 by omega]
    simp only [List.singleton_append, List.getElem?_cons_succ, List.append_assoc]
    rw [List.getElem?_append_left hk, List.getElem?_eq_getElem hk]
  have hz : ∀ k (hk : k < Y2.length), (A ++ ([x] ++ (Y1 ++ Y2 ++ B)))[A.length + 1 + Y1.length + k]? = some Y2[k] := fun k hk => by
    rw [List.getElem?_append_right (by omega), show A.length + 1 + Y1.length + k - A.length = (Y1.length + k) + 1 by omega]
    simp only [List.singleton_append, List.getElem?_cons_succ, List.append_assoc]
    rw [List.getElem?_append_right (by omega), show Y1.length + k - Y1.length = k by omega, List.getElem?_append_left hk, List.getElem?_eq_getElem hk]
  have c1 : ∀ y, y ∈ Y1 → lt y x = true := fun y hm => by
    obtain ⟨k, hk, rfl⟩ := List.mem_iff_getElem.1 hm
    have := hlo (A.length + 1 + k) (by omega) (by omega)
    simp only at this
    rwa [ltAt_of (hy k hk) hx] at this
  have c2 : ∀ y, y ∈ Y2 → lt y x = false := fun y hm => by
    obtain ⟨k, hk, rfl⟩ := List.mem_iff_getElem.1 hm
    have := hhi (A.length + 1 + Y1.length + k) (by omega) (by omega)
    simp only at this
    rwa [ltAt_of (hz k hk) hx] at this
  have hup := List.pairwise_append.1 h5
  refine ⟨A, [x] ++ (Y1 ++ Y2), Y1 ++ (x :: Y2), B, by simp, ?_, rfl, by simp; omega, ?_, ?_⟩
  · have := upF_blocks x Y1 A (Y2 ++ B)
    rw [hY] at this
    simpa using this
  · have := Stab.app (stab_blocks hw (X := [x]) (Y := Y1) (fun u hu v hv => by rw [List.mem_singleton.1 hu]; exact c1 v hv)) (Stab.refl lt Y2)
    simpa using this
  · refine List.pairwise_append.2 ⟨hup.1, List.pairwise_cons.2 ⟨c2, hup.2.1⟩, fun u hu v hv => ?_⟩
    rcases List.mem_cons.1 hv with rfl | hv
    · exact hw.asym _ _ (c1 u hu)
    · exact hup.2.2 u hu v hv
/-- One element on the right: it goes down to its place r. -/
theorem merge_right {lt : α → α → Bool} (hw : Wk lt) {L : List α} {a m r : Nat} (h : Pre lt L a m (m + 1)) (hh : Half (fun k => !ltAt lt L m k) a m r r) : Done lt a (m + 1) L (downF L m (m - r)) := by
  obtain ⟨A, X, Y, B, rfl, h1, h2, h3, h4, h5⟩ := h
  subst h1
  subst h2
  obtain ⟨y, rfl⟩ : ∃ y, Y = [y] := by
    match Y, h3 with
    | [y], _ => exact ⟨y, rfl⟩
    | [], h => simp at h
    | _ :: _ :: _, h => simp at h
  obtain ⟨b0, _, b1, hlo, hhi⟩ := hh
  obtain ⟨X1, X2, rfl, hX⟩ : ∃ P Q, X = P ++ Q ∧ P.length = r - A.length := ⟨X.take (r - A.length), X.drop (r - A.length), (List.take_append_drop _ _).symm, by rw [List.length_take]; omega⟩
  simp only [List.length_append] at *
  have hy : (A ++ (X1 ++ X2 ++ ([y] ++ B)))[A.length + (X1.length + X2.length)]? = some y := by
    rw [List.getElem?_append_right (by omega), List.getElem?_append_right (by simp), Nat.add_sub_cancel_left]; simp
  have g1 : ∀ k (hk : k < X1.length), (A ++ (X1 ++ X2 ++ ([y] ++ B)))[A.length + k]? = some X1[k] := fun k hk => by
    rw [List.getElem?_append_right (by omega), Nat.add_sub_cancel_left, List.append_assoc, List.getElem?_append_left hk, List.getElem?_eq_getElem hk]
  have g2 : ∀ k (hk : k < X2.length), (A ++ (X1 ++ X2 ++ ([y] ++ B)))[A.length + X1.length + k]? = some X2[k] := fun k hk => by
    rw [List.getElem?_append_right (by omega), show A.length + X1.length + k - A.length = X1.length + k by omega, List.append_assoc, List.getElem?_append_right (by omega), Nat.add_sub_cancel_left, List.getElem?_append_left hk, List.getElem?_eq_getElem hk]
  have c1 : ∀ x, x ∈ X1 → lt y x = false := fun x hm => by
    obtain ⟨k, hk, rfl⟩ := List.mem_iff_getElem.1 hm
    have := hlo (A.length + k) (by omega) (by omega)
    simp only [Bool.not_eq_true'] at this
    rwa [ltAt_of hy (g1 k hk)] at this
  have c2 : ∀ x, x ∈ X2 → lt y x = true := fun x hm => by
    obtain ⟨k, hk, rfl⟩ := List.mem_iff_getElem.1 hm
    have := hhi (A.length + X1.length + k) (by omega) (by omega)
    simp only [Bool.not_eq_false'] at this
    rwa [ltAt_of hy (g2 k hk)] at this
  have hup := List.pairwise_append.1 h4
  refine ⟨A, X1 ++ X2 ++ [y], X1 ++ (y :: X2), B, by simp, ?_, rfl, by simp; omega, ?_, ?_⟩
  · have := downF_blocks y X2.length X2 (A ++ X1) B rfl
    rw [show (A ++ X1).length + X2.length = A.length + (X1.length + X2.length) by simp; omega] at this
    rw [show A.length + (X1.length + X2.length) - r = X2.length by omega]
    simpa using this
  · have := Stab.app (Stab.refl lt X1) (stab_blocks hw (X := X2) (Y := [y]) (fun u hu v hv => by rw [List.mem_singleton.1 hv]; exact c2 u hu))
    simpa using this
  · refine List.pairwise_append.2 ⟨hup.1, List.pairwise_cons.2 ⟨fun x hx => hw.asym _ _ (c2 x hx), hup.2.1⟩, fun u hu v hv => ?_⟩
    rcases List.mem_cons.1 hv with rfl | hv
    · exact c1 u hu
    · exact hup.2.2 u hu v hv

theorem some_of {L : List α} {i : Nat} (h : i < L.length) : ∃ x, L[i]? = some x := ⟨L[i], List.getElem?_eq_getElem h⟩
section
variable {lt : α → α → Bool} (hw : Wk lt) {L : List α} {i j k : Nat} (hi : i < L.length) (hj : j < L.length) (hk : k < L.length)
include hw hi hj hk
theorem ltAt_tr2 (h1 : ltAt lt L j i = false) (h2 : ltAt lt L j k = true) : ltAt lt L i k = true := by
  obtain ⟨x, hx⟩ := some_of hi; obtain ⟨y, hy⟩ := some_of hj; obtain ⟨z, hz⟩ := some_of hk
  rw [ltAt_of hy hx] at h1; rw [ltAt_of hy hz] at h2; rw [ltAt_of hx hz]
  exact hw.tr2 h1 h2
theorem ltAt_tr1 (h1 : ltAt lt L i j = true) (h2 : ltAt lt L k j = false) : ltAt lt L i k = true := by
  obtain ⟨x, hx⟩ := some_of hi; obtain ⟨y, hy⟩ := some_of hj; obtain ⟨z, hz⟩ := some_of hk
  rw [ltAt_of hx hy] at h1; rw [ltAt_of hz hy] at h2; rw [ltAt_of hx hz]
  exact hw.tr1 h1 h2
theorem ltAt_ntr (h1 : ltAt lt L i j = false) (h2 : ltAt lt L j k = false) : ltAt lt L i k = false := by
  obtain ⟨x, hx⟩ := some_of hi; obtain ⟨y, hy⟩ := some_of hj; obtain ⟨z, hz⟩ := some_of hk
  rw [ltAt_of hx hy] at h1; rw [ltAt_of hy hz] at h2; rw [ltAt_of hx hz]
  exact hw.ntr _ _ _ h1 h2
end
theorem ltAt_irr {lt : α → α → Bool} (hw : Wk lt) {L : List α} {i : Nat} (hi : i < L.length) : ltAt lt L i i = false := by
  obtain ⟨x, hx⟩ := some_of hi
  rw [ltAt_of hx hx]; exact hw.irr x
theorem falls_left {lt : α → α → Bool} (hw : Wk lt) {L : List α} {a b : Nat} (h : Pre lt L a (a + 1) b) : Falls (fun k => ltAt lt L k a) (a + 1) b := by
  intro k l h1 h2 h3 h4
  have hb := h.bounds
  exact ltAt_tr2 hw (by omega) (j := l) (by omega) (by omega) (h.segs.2 k l h1 h2 h3) h4
theorem falls_right {lt : α → α → Bool} (hw : Wk lt) {L : List α} {a m : Nat} (h : Pre lt L a m (m + 1)) : Falls (fun k => !ltAt lt L m k) a m := by
  intro k l h1 h2 h3 h4
  have hb := h.bounds
  simp only [Bool.not_eq_true'] at h4 ⊢
  exact ltAt_ntr hw (by omega) (j := l) (by omega) (by omega) h4 (h.segs.1 k l h1 h2 h3)
/-- The search's bounds in the general step. -/
def lo0 (a m b : Nat) : Nat := if (a + b) / 2 < m then (a + b) / 2 + m - b else a
def hi0 (a m b : Nat) : Nat := if (a + b) / 2 < m then (a + b) / 2 else m
def test (lt : α → α → Bool) (L : List α) (a m b c : Nat) : Bool := !ltAt lt L ((a + b) / 2 + m - 1 - c) c
theorem range_ok {a m b : Nat} (h1 : a < m) (h2 : m < b) : a ≤ lo0 a m b ∧ lo0 a m b ≤ hi0 a m b ∧ hi0 a m b ≤ m ∧ hi0 a m b ≤ (a + b) / 2 ∧ b ≤ (b - a) + a ∧ (a + b) / 2 + m - b ≤ lo0 a m b ∧ (lo0 a m b = a ∨ lo0 a m b + b = (a + b) / 2 + m) ∧ (hi0 a m b = m ∨ hi0 a m b = (a + b) / 2) := by
  unfold lo0 hi0
  split <;> refine ⟨?_, ?_, ?_, ?_, ?_, ?_, ?_, ?_⟩ <;> omega
theorem falls_gen {lt : α → α → Bool} (hw : Wk lt) {L : List α} {a m b : Nat} (h : Pre lt L a m b) (h1 : a < m) (h2 : m < b) : Falls (test lt L a m b) (lo0 a m b) (hi0 a m b) := by
  intro k l g1 g2 g3 g4
  obtain ⟨r1, r2, r3, r4, r5, r6, r7, r8⟩ := range_ok h1 h2
  have hb := h.bounds
  unfold test at g4 ⊢
  simp only [Bool.not_eq_true'] at g4 ⊢
  have e1 := h.segs.1 k l (by omega) g2 (by omega)
  have e2 := h.segs.2 ((a + b) / 2 + m - 1 - l) ((a + b) / 2 + m - 1 - k) (by omega) (by omega) (by omega)
  exact ltAt_ntr hw (by omega) (j := (a + b) / 2 + m - 1 - l) (by omega) (by omega) e2 (ltAt_ntr hw (by omega) (j := l) (by omega) (by omega) g4 e1)
/-- Four parts of a list. -/
theorem Pre.mk' {lt : α → α → Bool} {A X Y B : List α} (h1 : Up lt X) (h2 : Up lt Y) : Pre lt (A ++ (X ++ (Y ++ B))) A.length (A.length + X.length) (A.length + X.length + Y.length) := ⟨A, X, Y, B, rfl, rfl, rfl, rfl, h1, h2⟩
/-- What the general step leaves: the left half, the right half, each to be merged; nothing of the right is below anything of the left. -/
structure Step (lt : α → α → Bool) (L : List α) (a m b s : Nat) : Prop where
  left : Pre lt (rotd L s m ((a + b) / 2 + m - s)) a s ((a + b) / 2)
  right : ∀ L2, Done lt a ((a + b) / 2) (rotd L s m ((a + b) / 2 + m - s)) L2 → Pre lt L2 ((a + b) / 2) ((a + b) / 2 + m - s) b
  all : ∀ L2 L3, Done lt a ((a + b) / 2) (rotd L s m ((a + b) / 2 + m - s)) L2 → Done lt ((a + b) / 2) b L2 L3 → Done lt a b L L3
  le1 : a ≤ s ∧ s ≤ m ∧ m ≤ (a + b) / 2 + m - s ∧ (a + b) / 2 + m - s ≤ b ∧ s ≤ (a + b) / 2 ∧ (a + b) / 2 ≤ (a + b) / 2 + m - s
theorem app_inj {A A' B B' : List α} (h : A ++ B = A' ++ B') (hl : A.length = A'.length) : A = A' ∧ B = B' := List.append_inj h hl
theorem step_gen {lt : α → α → Bool} (hw : Wk lt) {L : List α} {a m b s : Nat} (h : Pre lt L a m b) (h1 : a < m) (h2 : m < b) (hh : Half (test lt L a m b) (lo0 a m b) (hi0 a m b) s s) : Step lt L a m b s := by
  obtain ⟨r1, r2, r3, r4, r5, r6, r7, r8⟩ := range_ok h1 h2
  have hb := h.bounds
  have hsg := h.segs
  obtain ⟨q1, _, q2, hlo, hhi⟩ := hh
  have hmid : a ≤ (a + b) / 2 ∧ (a + b) / 2 ≤ b := by omega
  obtain ⟨A, X, Y, B, rfl, a1, a2, a3, ux, uy⟩ := h
  subst a1
  obtain ⟨X1, X2, rfl, hX⟩ : ∃ P Q, X = P ++ Q ∧ P.length = s - A.length := ⟨X.take (s - A.length), X.drop (s - A.length), (List.take_append_drop _ _).symm, by rw [List.length_take]; omega⟩
  obtain ⟨Y1, Y2, rfl, hY⟩ : ∃ P Q, Y = P ++ Q ∧ P.length = (A.length + b) / 2 - s := ⟨Y.take ((A.length + b) / 2 - s), Y.drop ((A.length + b) / 2 - s), (List.take_append_drop _ _).symm, by rw [List.length_take]; omega⟩
  simp only [List.length_append] at a2 a3
  generalize hM : (A.length + b) / 2 = M at *
  have gx1 : ∀ k (hk : k < X1.length), (A ++ (X1 ++ X2 ++ (Y1 ++ Y2 ++ B)))[A.length + k]? = some X1[k] := fun k hk => by
    rw [List.getElem?_append_right (by omega), Nat.add_sub_cancel_left, List.append_assoc, List.getElem?_append_left hk, List.getElem?_eq_getElem hk]
  have gx2 : ∀ k (hk : k < X2.length), (A ++ (X1 ++ X2 ++ (Y1 ++ Y2 ++ B)))[s + k]? = some X2[k] := fun k hk => by
    rw [List.getElem?_append_right (by omega), List.append_assoc, List.getElem?_append_right (by omega), show s + k - A.length - X1.length = k by omega, List.getElem?_append_left hk, List.getElem?_eq_getElem hk]
  have gy1 : ∀ k (hk : k < Y1.length), (A ++ (X1 ++ X2 ++ (Y1 ++ Y2 ++ B)))[m + k]? = some Y1[k] := fun k hk => by
    rw [List.getElem?_append_right (by omega), List.getElem?_append_right (by simp; omega), List.length_append, show m + k - A.length - (X1.length + X2.length) = k by omega, List.append_assoc, List.getElem?_append_left hk, List.getElem?_eq_getElem hk]
  have gy2 : ∀ k (hk : k < Y2.length), (A ++ (X1 ++ X2 ++ (Y1 ++ Y2 ++ B)))[M + m - s + k]? = some Y2[k] := fun k hk => by
    rw [List.getElem?_append_right (by omega), List.getElem?_append_right (by simp; omega), List.length_append, List.append_assoc, List.getElem?_append_right (by omega), show M + m - s + k - A.length - (X1.length + X2.length) - Y1.length = k by omega, List.getElem?_append_left hk, List.getElem?_eq_getElem hk]
  have hlen : (A ++ (X1 ++ X2 ++ (Y1 ++ Y2 ++ B))).length = b + B.length := by simp only [List.length_append]; omega
  have ge : ∀ i, i < b → i < (A ++ (X1 ++ X2 ++ (Y1 ++ Y2 ++ B))).length := fun i hi => by omega
  have le_of : ∀ i j, A.length ≤ i → i ≤ j → j < m → ltAt lt (A ++ (X1 ++ X2 ++ (Y1 ++ Y2 ++ B))) j i = false := fun i j g1 g2 g3 => by
    by_cases e : i = j
    · rw [e]; exact ltAt_irr hw (ge j (by omega))
    · exact hsg.1 i j g1 (by omega) g3
  have le_of' : ∀ i j, m ≤ i → i ≤ j → j < b → ltAt lt (A ++ (X1 ++ X2 ++ (Y1 ++ Y2 ++ B))) j i = false := fun i j g1 g2 g3 => by
    by_cases e : i = j
    · rw [e]; exact ltAt_irr hw (ge j (by omega))
    · exact hsg.2 i j g1 (by omega) g3
  -- each of Y1 is below each of X2
  have cyx : ∀ x, x ∈ X2 → ∀ y, y ∈ Y1 → lt y x = true := fun x hx y hy => by
    obtain ⟨i, hi, rfl⟩ := List.mem_iff_getElem.1 hx
    obtain ⟨j, hj, rfl⟩ := List.mem_iff_getElem.1 hy
    have ht := hhi s (by omega) (by omega)
    unfold test at ht
    rw [hM] at ht
    simp only [Bool.not_eq_false'] at ht
    have t1 := ltAt_tr2 hw (ge _ (by omega)) (ge _ (by omega)) (ge _ (by omega)) (le_of' (m + j) (M + m - 1 - s) (by omega) (by omega) (by omega)) ht
    have t2 := ltAt_tr1 hw (ge _ (by omega)) (ge _ (by omega)) (ge _ (by omega)) t1 (le_of s (s + i) (by omega) (by omega) (by omega))
    rwa [ltAt_of (gy1 j hj) (gx2 i hi)] at t2
  -- none of Y2 is below one of X1
  have cxy : ∀ x, x ∈ X1 → ∀ y, y ∈ Y2 → lt y x = false := fun x hx y hy => by
    obtain ⟨i, hi, rfl⟩ := List.mem_iff_getElem.1 hx
    obtain ⟨j, hj, rfl⟩ := List.mem_iff_getElem.1 hy
    have ht := hlo (s - 1) (by omega) (by omega)
    unfold test at ht
    rw [hM, show M + m - 1 - (s - 1) = M + m - s by omega] at ht
    simp only [Bool.not_eq_true'] at ht
    have t1 := ltAt_ntr hw (ge _ (by omega)) (ge _ (by omega)) (ge _ (by omega)) (le_of' (M + m - s) (M + m - s + j) (by omega) (by omega) (by omega)) ht
    have t2 := ltAt_ntr hw (ge _ (by omega)) (ge _ (by omega)) (ge _ (by omega)) t1 (le_of (A.length + i) (s - 1) (by omega) (by omega) (by omega))
    rwa [ltAt_of (gy2 j hj) (gx1 i hi)] at t2
  have hux := List.pairwise_append.1 ux
  have huy := List.pairwise_append.1 uy
  have hrot : rotd (A ++ (X1 ++ X2 ++ (Y1 ++ Y2 ++ B))) s m (M + m - s) = A ++ (X1 ++ (Y1 ++ (X2 ++ (Y2 ++ B)))) := by
    have := rotd_blocks (A ++ X1) X2 Y1 (Y2 ++ B)
    rw [show (A ++ X1).length = s by simp; omega, show s + X2.length = m by omega, show m + Y1.length = M + m - s by omega] at this
    rw [show A ++ (X1 ++ X2 ++ (Y1 ++ Y2 ++ B)) = A ++ X1 ++ (X2 ++ (Y1 ++ (Y2 ++ B))) by simp, this]
    simp
  -- what stands in the left half
  have hleft : ∀ L2, Done lt A.length M (A ++ (X1 ++ (Y1 ++ (X2 ++ (Y2 ++ B))))) L2 → ∃ Z, L2 = A ++ (Z ++ (X2 ++ (Y2 ++ B))) ∧ Stab lt (X1 ++ Y1) Z ∧ Up lt Z ∧ Z.length = X1.length + Y1.length := by
    intro L2 hd
    obtain ⟨A', S, S', B', e1, e2, d1, d2, d3, d4⟩ := hd
    obtain ⟨rfl, e3⟩ := app_inj e1 d1.symm
    have e4 : (X1 ++ Y1) ++ (X2 ++ (Y2 ++ B)) = S ++ B' := by simpa using e3
    obtain ⟨rfl, rfl⟩ := app_inj e4 (by rw [List.length_append]; omega)
    exact ⟨S', e2, d3, d4, by rw [← d3.length hw, List.length_append]⟩
  refine ⟨?_, ?_, ?_, by omega⟩
  · rw [hM, hrot]
    have := Pre.mk' (A := A) (B := X2 ++ (Y2 ++ B)) hux.1 huy.1
    rwa [show A.length + X1.length = s by omega, show s + Y1.length = M by omega] at this
  · intro L2 hd
    rw [hM, hrot] at hd
    rw [hM]
    obtain ⟨Z, rfl, z1, z2, z3⟩ := hleft L2 hd
    have := Pre.mk' (A := A ++ Z) (B := B) hux.2.1 huy.2.1
    rw [List.length_append, z3, show A.length + (X1.length + Y1.length) = M by omega, show M + X2.length = M + m - s by omega, show M + m - s + Y2.length = b by omega] at this
    simpa using this
  · intro L2 L3 hd hd'
    rw [hM, hrot] at hd
    rw [hM] at hd'
    obtain ⟨Z, rfl, z1, z2, z3⟩ := hleft L2 hd
    obtain ⟨A', S, S', B', e1, e2, d1, d2, d3, d4⟩ := hd'
    have e0 : (A ++ Z) ++ (X2 ++ (Y2 ++ B)) = A' ++ (S ++ B') := by simpa using e1
    obtain ⟨rfl, e3⟩ := app_inj e0 (by rw [List.length_append]; omega)
    have e4 : (X2 ++ Y2) ++ B = S ++ B' := by simpa using e3
    obtain ⟨rfl, rfl⟩ := app_inj e4 (by rw [List.length_append]; omega)
    refine ⟨A, X1 ++ X2 ++ (Y1 ++ Y2), Z ++ S', B, by simp, by rw [e2]; simp, rfl, by simp only [List.length_append]; omega, ?_, ?_⟩
    · have s1 : Stab lt (X1 ++ (X2 ++ Y1 ++ Y2)) (X1 ++ (Y1 ++ X2 ++ Y2)) := Stab.app (Stab.refl _ _) (Stab.app (stab_blocks hw cyx) (Stab.refl _ _))
      have s2 := Stab.app z1 d3
      refine Stab.trans (by simpa using s1) (Stab.trans ?_ s2)
      have := Stab.refl lt (X1 ++ (Y1 ++ (X2 ++ Y2)))
      simpa using this
    · refine List.pairwise_append.2 ⟨z2, d4, fun u hu v hv => ?_⟩
      have hu' := (z1.mem hw u).2 hu
      have hv' := (d3.mem hw v).2 hv
      rcases List.mem_append.1 hu' with hu' | hu' <;> rcases List.mem_append.1 hv' with hv' | hv'
      · exact hux.2.2 u hu' v hv'
      · exact cxy u hu' v hv'
      · exact hw.asym _ _ (cyx v hv' u hu')
      · exact huy.2.2 u hu' v hv'

theorem Done.seg {lt : α → α → Bool} (hw : Wk lt) {a b : Nat} {L L' : List α} (h : Done lt a b L L') : Seg lt L' a b := by
  obtain ⟨A, S, S', B, rfl, rfl, rfl, h2, h3, h4⟩ := h
  have := up_seg (A := A) (B := B) h4
  rwa [← h3.length hw, h2] at this
theorem Done.get {lt : α → α → Bool} (hw : Wk lt) {a b : Nat} {L L' : List α} (h : Done lt a b L L') {i : Nat} (hi : i < a ∨ b ≤ i) : L'[i]? = L[i]? := by
  obtain ⟨A, S, S', B, rfl, rfl, rfl, h2, h3, h4⟩ := h
  have hl := h3.length hw
  rcases hi with hi | hi
  · rw [List.getElem?_append_left hi, List.getElem?_append_left hi]
  · rw [List.getElem?_append_right (by omega), List.getElem?_append_right (by omega), List.getElem?_append_right (by omega), List.getElem?_append_right (by omega), hl]
theorem Done.seg_out {lt : α → α → Bool} (hw : Wk lt) {a b : Nat} {L L' : List α} (h : Done lt a b L L') {i j : Nat} (hi : j ≤ a ∨ b ≤ i) (hs : Seg lt L i j) : Seg lt L' i j := by
  intro k l g1 g2 g3
  have := hs k l g1 g2 g3
  unfold ltAt at this ⊢
  rwa [h.get hw (by omega), h.get hw (by omega)]
theorem Done.stab {lt : α → α → Bool} {a b : Nat} {L L' : List α} (h : Done lt a b L L') : Stab lt L L' := by
  obtain ⟨A, S, S', B, rfl, rfl, rfl, h2, h3, h4⟩ := h
  exact Stab.app (Stab.refl _ _) (Stab.app h3 (Stab.refl _ _))
theorem seg_pre {lt : α → α → Bool} {L : List α} {a m b : Nat} (h1 : Seg lt L a m) (h2 : Seg lt L m b) (ha : a ≤ m) (hb : m ≤ b) (hl : b ≤ L.length) : Pre lt L a m b := by
  obtain ⟨A, X, Y, B, rfl, hA, hX, hY⟩ := cut4 L ha hb hl
  subst hA
  have e1 : A.length + X.length = m := by omega
  have e2 : A.length + X.length + Y.length = b := by omega
  refine ⟨A, X, Y, B, rfl, rfl, e1, e2, ?_, ?_⟩
  · rw [← e1] at h1; exact seg_up h1
  · rw [← e2, ← e1, ← List.length_append, ← List.append_assoc] at h2; exact seg_up h2
theorem seg_all {lt : α → α → Bool} {L : List α} (h : Seg lt L 0 L.length) : Up lt L := by
  have := seg_up (A := []) (S := L) (B := []) (lt := lt) (by simpa using h)
  exact this
theorem seg_mono {lt : α → α → Bool} {L : List α} {a b c d : Nat} (h : Seg lt L a b) (h1 : a ≤ c) (h2 : d ≤ b) : Seg lt L c d := fun i j g1 g2 g3 => h i j (by omega) g2 (by omega)
theorem seg_short {lt : α → α → Bool} {L : List α} {a b : Nat} (h : b ≤ a + 1) : Seg lt L a b := fun i j g1 g2 g3 => absurd g2 (by omega)
/-- All blocks of k places are sorted. -/
def Blocks (lt : α → α → Bool) (L : List α) (k : Nat) : Prop := ∀ t, Seg lt L (t * k) (min (t * k + k) L.length)
/-- The blocks ahead of place t * k are. -/
def Ahead (lt : α → α → Bool) (L : List α) (k t : Nat) : Prop := ∀ u, u < t → Seg lt L (u * k) (u * k + k)
theorem Ahead.zero (lt : α → α → Bool) (L : List α) (k : Nat) : Ahead lt L k 0 := fun u h => absurd h (by omega)
theorem mul_step {u t k : Nat} (h : u < t) : u * k + k ≤ t * k := by
  have := Nat.mul_le_mul_right k (show u + 1 ≤ t by omega)
  rwa [Nat.add_mul, Nat.one_mul] at this
theorem Ahead.next {lt : α → α → Bool} (hw : Wk lt) {L L' : List α} {k t : Nat} (h : Ahead lt L k t) (hd : Done lt (t * k) (t * k + k) L L') : Ahead lt L' k (t + 1) := by
  intro u hu
  by_cases e : u = t
  · rw [e]; exact hd.seg hw
  · exact hd.seg_out hw (.inl (mul_step (by omega))) (h u (by omega))
theorem Ahead.last {lt : α → α → Bool} (hw : Wk lt) {L L' : List α} {k t : Nat} (h : Ahead lt L k t) (hn : L.length < t * k + k) (hd : Done lt (t * k) L.length L L') : Blocks lt L' k := by
  intro u
  rw [hd.len hw]
  rcases Nat.lt_trichotomy u t with hu | hu | hu
  · exact seg_mono (hd.seg_out hw (.inl (mul_step hu)) (h u hu)) (Nat.le_refl _) (Nat.min_le_left _ _)
  · rw [hu]; exact seg_mono (hd.seg hw) (Nat.le_refl _) (Nat.min_le_right _ _)
  · have := mul_step (k := k) hu
    exact seg_short (by omega)
/-- The blocks from place t * k on are. -/
def Behind (lt : α → α → Bool) (L : List α) (k t : Nat) : Prop := ∀ u, t ≤ u → Seg lt L (u * k) (min (u * k + k) L.length)
theorem Blocks.behind {lt : α → α → Bool} {L : List α} {k : Nat} (h : Blocks lt L k) : Behind lt L k 0 := fun u _ => h u
theorem two_mul_block (t k : Nat) : 2 * t * k = t * (2 * k) := by rw [Nat.mul_comm 2 t, Nat.mul_assoc]
theorem Behind.next {lt : α → α → Bool} (hw : Wk lt) {L L' : List α} {k t : Nat} (h : Behind lt L k (2 * t)) (hd : Done lt (t * (2 * k)) (t * (2 * k) + 2 * k) L L') : Behind lt L' k (2 * (t + 1)) := by
  intro u hu
  rw [hd.len hw]
  refine hd.seg_out hw (.inr ?_) (h u (by omega))
  have := Nat.mul_le_mul_right k hu
  rw [two_mul_block, Nat.add_mul, Nat.one_mul] at this
  exact this
theorem Behind.pre {lt : α → α → Bool} {L : List α} {k t : Nat} (h : Behind lt L k (2 * t)) (hb : t * (2 * k) + 2 * k ≤ L.length) : Pre lt L (t * (2 * k)) (t * (2 * k) + k) (t * (2 * k) + 2 * k) := by
  have h0 := h (2 * t) (Nat.le_refl _)
  have h1 := h (2 * t + 1) (by omega)
  rw [Nat.add_mul, Nat.one_mul, two_mul_block] at h1
  rw [two_mul_block] at h0
  rw [Nat.min_eq_left (by omega)] at h0 h1
  exact seg_pre h0 (seg_mono h1 (Nat.le_refl _) (by omega)) (by omega) (by omega) hb
theorem Behind.pre_last {lt : α → α → Bool} {L : List α} {k t : Nat} (h : Behind lt L k (2 * t)) (hb : t * (2 * k) + k ≤ L.length) (hn : L.length < t * (2 * k) + 2 * k) : Pre lt L (t * (2 * k)) (t * (2 * k) + k) L.length := by
  have h0 := h (2 * t) (Nat.le_refl _)
  have h1 := h (2 * t + 1) (by omega)
  rw [Nat.add_mul, Nat.one_mul, two_mul_block] at h1
  rw [two_mul_block] at h0
  rw [Nat.min_eq_left (by omega)] at h0
  rw [Nat.min_eq_right (by omega)] at h1
  exact seg_pre h0 h1 (by omega) (by omega) (Nat.le_refl _)
theorem Behind.done_last {lt : α → α → Bool} {L : List α} {k t : Nat} (h : Behind lt L k (2 * t)) (ha : t * (2 * k) ≤ L.length) (hn : L.length ≤ t * (2 * k) + k) : Done lt (t * (2 * k)) L.length L L := by
  have h0 := h (2 * t) (Nat.le_refl _)
  rw [two_mul_block, Nat.min_eq_right (by omega)] at h0
  exact (seg_pre h0 (seg_short (by omega)) ha (Nat.le_refl _) (Nat.le_refl _)).done (.inr rfl)
theorem Blocks.up {lt : α → α → Bool} {L : List α} {k : Nat} (h : Blocks lt L k) (hk : L.length ≤ k) : Up lt L := by
  have := h 0
  rw [Nat.zero_mul, Nat.zero_add, Nat.min_eq_right hk] at this
  exact seg_all this
/-- The sorted list. -/
def sortL (lt : α → α → Bool) (L : List α) : List α := insS lt L 0 1 (L.length - 1)
theorem sortL_ok {lt : α → α → Bool} (hw : Wk lt) (L : List α) : Up lt (sortL lt L) ∧ Stab lt L (sortL lt L) := by
  have h := insS_done hw L (Nat.zero_le L.length) (Nat.le_refl _)
  have hl : (sortL lt L).length = L.length := h.len hw
  exact ⟨seg_all (by rw [hl]; exact h.seg hw), h.stab⟩
theorem sortL_of {lt : α → α → Bool} (hw : Wk lt) {L L' : List α} (h1 : Up lt L') (h2 : Stab lt L L') : L' = sortL lt L :=
  up_unique hw _ _ h1 (sortL_ok hw L).1 (h2.symm.trans (sortL_ok hw L).2)
/-- One element more, put behind the last one that is not above it. -/
theorem put_ok {lt : α → α → Bool} (hw : Wk lt) {O : List α} {x : α} {k : Nat} (hu : Up lt O) (h1 : ∀ y, y ∈ O.drop k → lt x y = true) (h2 : ∀ y, y ∈ O.take k → lt x y = false) : Up lt (O.take k ++ x :: O.drop k) ∧ Stab lt (O ++ [x]) (O.take k ++ x :: O.drop k) := by
  have e : O = O.take k ++ O.drop k := (List.take_append_drop k O).symm
  have hu' : Up lt (O.take k ++ O.drop k) := by rw [← e]; exact hu
  have hp := List.pairwise_append.1 hu'
  refine ⟨List.pairwise_append.2 ⟨hp.1, List.pairwise_cons.2 ⟨fun y hy => hw.asym _ _ (h1 y hy), hp.2.1⟩, fun u hu v hv => ?_⟩, ?_⟩
  · rcases List.mem_cons.1 hv with rfl | hv
    · exact h2 u hu
    · exact hp.2.2 u hu v hv
  · have := Stab.app (Stab.refl lt (O.take k)) (stab_blocks hw (X := O.drop k) (Y := [x]) (fun u hu v hv => by rw [List.mem_singleton.1 hv]; exact h1 u hu))
    rw [← List.append_assoc, ← e] at this
    simpa using this
end Go.Proofs.Ytdippdkneeocfaa.Srt
