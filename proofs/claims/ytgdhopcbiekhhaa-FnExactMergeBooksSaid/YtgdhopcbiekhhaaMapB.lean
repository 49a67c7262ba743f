/- Sets kept as maps to bools: the look-up of a bool, and what such a map holds. No condition. -/
import Derived.Maps.OwnOps
import Derived.Maps.OwnSet
import Derived.Maps.Views
namespace Go.Proofs.Ytgdhopcbiekhhaa
open Go.Maps (Keyed IsMap setOf)
set_option linter.unusedVariables false
set_option linter.unusedSimpArgs false
theorem plainElem_bool_inv {H : Type} {P : Program} {e : TypeId} (he : P.underlying e = some .bool) {v : Value} {z : DataW H × List MemPlace} (h : plainElem P e v = some z) : ∃ c, v = .bool c ∧ z = (.lit (.bool c), []) := by
  unfold plainElem at h
  rw [he] at h
  cases v <;> simp at h
  exact ⟨_, rfl, h.symm⟩
/-- 'm[k]' at bools: some c, of which 'hat' says what it is. -/
theorem wpList_lookup_own_bool {H : Type} {P : Program} (w : World) {ops : Array Oper} {rest : List Oper} {o : Oper} {a : Act} {Q : Exit → Act → World → Prop}
    (hg : o.guard = none) (m x : Operand) (t : TypeId) (hop : o.op = Op.lookup t m x false)
    (k e : TypeId) (K : Keyed P k) (ht : P.underlying t = some (.map k e)) (he : P.underlying e = some .bool) (hz : (zeroValue e).run P w = .ok (.bool false) w) (b n : Nat) (D : DataW H)
    (hm : a.eval m = .map (some b)) (hown : w.ownsMap P k (plainElem P e) b n D) (key : Value) (kl : Lit) (hx : a.eval x = key) (hkey : keyOf P k key = some kl)
    (hK : ∀ c : Bool, D.atKey kl (.lit (.bool false)) = .lit (.bool c) → wpList P ops Q rest (a.put o.dst (.bool c)) w) :
    wpList P ops Q (o :: rest) a w := by
  refine wpList_plain hg fun K' hK' => ?_
  obtain ⟨v, ps, hrun, hv⟩ := hown.lookup K ht hz (plainElem_bool he false) hkey
  obtain ⟨c, rfl, hc⟩ := plainElem_bool_inv he hv
  simp only [Prod.mk.injEq] at hc
  unfold Oper.wp
  simp [execOp, hop, hm, hx, hrun, Result.andThen]
  exact hK' _ _ (hK c hc.1)
/-- 'm[k]' at bools, as an equation on the operation's run. -/
theorem lookup_bool {H : Type} {P : Program} {w : World} {t k e : TypeId} {b n : Nat} {D : DataW H} (h : w.ownsMap P k (plainElem P e) b n D) (K : Keyed P k) (ht : P.underlying t = some (.map k e)) (he : P.underlying e = some .bool) (hz : (zeroValue e).run P w = .ok (.bool false) w)
    {key : Value} {kl : Lit} (hkey : keyOf P k key = some kl) {c : Bool} (hat : D.atKey kl (.lit (.bool false)) = .lit (.bool c)) : (Instr.lookup t (.map (some b)) key false).run P w = .ok (.bool c) w := by
  obtain ⟨v, ps, hrun, hv⟩ := h.lookup K ht hz (plainElem_bool he false) hkey
  obtain ⟨c', rfl, hc⟩ := plainElem_bool_inv he hv
  simp only [Prod.mk.injEq] at hc
  rw [hat] at hc
  have h1 := hc.1
  injection h1 with h1
  injection h1 with h1
  rw [hrun, h1]
/-- A set of whole numbers as such a map. -/
def setI (q : IntKind) (xs : List Int) : DataW Unit := setOf (.lit (.bool true)) (xs.map (Lit.int q))
theorem setI_snoc (q : IntKind) (xs : List Int) (x : Int) : setI q (xs ++ [x]) = (setI q xs).put (.int q x) (.lit (.bool true)) := by
  unfold setI; rw [List.map_append, List.map_cons, List.map_nil, Maps.setOf_snoc]
theorem setI_map (q : IntKind) (xs : List Int) : IsMap (setI q xs) := by
  unfold setI
  exact (Maps.tidy_setOf _ _ (by intro x hx; obtain ⟨n, _, rfl⟩ := List.mem_map.1 hx; trivial)).isMap
theorem setI_at (q : IntKind) (x : Int) : ∀ (n : Nat) (xs : List Int), xs.length = n → (setI q xs).atKey (.int q x) (.lit (.bool false)) = .lit (.bool (decide (x ∈ xs))) := by
  intro n
  induction n with
  | zero => intro xs h; rw [List.eq_nil_of_length_eq_zero h]; rfl
  | succ n ih =>
    intro xs h
    obtain ⟨ys, y, rfl⟩ : ∃ T y, xs = T ++ [y] := by
      have hne : xs ≠ [] := by intro h'; rw [h'] at h; simp at h
      exact ⟨xs.dropLast, xs.getLast hne, (List.dropLast_concat_getLast hne).symm⟩
    have hl : ys.length = n := by simpa using h
    rw [setI_snoc]
    by_cases e : x = y
    · subst e
      rw [Maps.atKey_put_same (setI_map q ys) (k := .int q x) (show WideAt.IsKeyLit (.int q x) from trivial)]
      simp
    · rw [Maps.atKey_put_other (by intro h'; injection h' with _ h'; exact e h'), ih ys hl]
      simp [e]
theorem setI_size (q : IntKind) (xs : List Int) : Maps.size (setI q xs) = ((xs.map (Lit.int q)).foldl Maps.addKey []).length := Maps.size_setOf _ _ (by intro x hx; obtain ⟨n, _, rfl⟩ := List.mem_map.1 hx; trivial)
end Go.Proofs.Ytgdhopcbiekhhaa
