/- The row of the statement FnExactCountByHundreds: the law's function returns true of every input. No condition. -/
import Derived.Test.YtgdhopcbiekhhaaSeat
import Derived.Test.YtgdhopcbiekhhaaWkCountByHundreds
import Derived.Test.YtgdhopcbiekhhaaOpen
import Derived.WalkKit
import Derived.ProofKit
import Derived.OpenShut
import Derived.ShutString
import Derived.ChangeOld
import Derived.Below
import Derived.SizedLaws
import Derived.Carry
namespace Go.Proofs.Ytgdhopcbiekhhaa.fnExactCountByHundreds
open Go.ChangeShapes Go.WideShapes Go.ChangeAt Go.RowKit
open Go.ChangeMaps (open_string shut_string)
set_option linter.unusedVariables false
set_option linter.unusedSimpArgs false
theorem own : ownKnob Try.prog.godebug = none := by kernel_rfl
set_option maxRecDepth 100000 in
theorem lifted (os : Os) (started : os.Started) (H : Type) (enc : TypeId × Value → H) :
    ReturnsInHanded {} Try.checked os 10 .any (Rows.fnExactCountByHundredsSpec.pre6 enc Try.prog Try.f10 Rows.fnExactCountByHundredsRow.domain false) (Rows.fnExactCountByHundredsSpec.post enc Try.prog Try.f10 false true false false) := by
  refine returnsInHanded_of_change_sized (C := Try.checked) own started (by kernel_rfl) Try.func10
    (ChangeSpec.witness6 (enc := enc) (C := Try.checked) false ⟨#[], #[.slice none 0 0], []⟩ 8 (by kernel_rfl) (by kernel_rfl) (by kernel_rfl) (by kernel_rfl)) ?_
  intro W base args ds gs before hval0 hW hcnd hsz0 _
  have hval : ∀ (j : Nat) t v, Try.f10.params[j]? = some t → args[j]? = some v → Value.okWide Try.prog W .any base t v := hval0
  have hW' := hW
  obtain ⟨p, q, hA0, hV, rfl, hfz, hnd⟩ := hW
  have hA : DataW.TrodAll enc Try.prog W 0 (fun _ => true) true Try.f10.params.toList args.toList ds p := hA0
  rw [Try.params10] at hA hval
  obtain ⟨v0, vs0, d0, ds0, p0, q0, hargs0, rfl, rfl, h0, r0⟩ := trodAll_cons hA
  obtain ⟨rfl, rfl, rfl⟩ := trodAll_nil r0
  obtain rfl : args = #[v0] := by cases args; simp_all
  obtain ⟨rfl, rfl⟩ := trodVars_none hV
  have lt0 : ∀ x ∈ p0, x.block < W.heap.size := fun x hx => by simpa using hW'.lt x (by simp [hx])
  have fin : ∀ (e : Ending) (W' : World), Ret W (.bool true) e W' → ∃ v, e = .returned v ∧ Rows.fnExactCountByHundredsSpec.post enc Try.prog Try.f10 false true false false W #[v0] v W' := by
    rintro e W' ⟨rfl, hb⟩
    exact ⟨_, rfl, _, _, _, [], (p0 ++ []), [], hW', trodAll_mk1 (shut_bool Try.underlying4 _), (trodAll_cons_mk (Below.trod laid (by kernel_rfl) (of_decide_eq_true (by kernel_rfl)) h0 hb lt0) trodAll_mk0), rfl, hb.frame _, fun h => by cases h⟩
  obtain ⟨A0, c0, L0, rfl, lc0, C0, ok0⟩ := open_books (hval 0 37 v0 rfl rfl) h0
  exact (FnExactCountByHundreds_c A0 c0 L0 lc0 C0 ok0).mono fin
theorem k1 : (Rows.fnExactCountByHundredsRow.wf (OpenSpec.ofChange Rows.fnExactCountByHundredsSpec) && laidOutB Try.prog && mapsRowed Try.prog && Try.f10.params.all (Try.prog.readableRec ·) && namedTie Try.prog Rows.fnExactCountByHundredsRow.named Rows.fnExactCountByHundredsSpec.vars && (Rows.fnExactCountByHundredsRow.stops == []) && (Try.prog.stops == []) && (Rows.fnExactCountByHundredsRow.knobs == []) && (Try.prog.stopKnobs == [])) = true := by kernel_rfl
theorem k2 : (Rows.fnExactCountByHundredsRow.inPlace == Try.prog.inPlace 10) = true := by kernel_rfl
theorem k3 : (Rows.fnExactCountByHundredsRow.unfollowed == Try.prog.unfollowed 10) = true := by kernel_rfl
theorem k4 : (Rows.fnExactCountByHundredsRow.recurses == Try.prog.recurses 10) = true := by kernel_rfl
theorem k5 : (Rows.fnExactCountByHundredsRow.named == Try.prog.varsNamed 10) = true := by kernel_rfl
theorem hfn : Try.prog.funcNamed Rows.fnExactCountByHundredsRow.func = some 10 := by kernel_rfl
theorem hinst : Try.f10.isInstance Try.prog Rows.fnExactCountByHundredsRow.origin Rows.fnExactCountByHundredsRow.targs := of_decide_eq_true (by kernel_rfl)
theorem hwrap : Try.f10.isWrapper Try.prog Rows.fnExactCountByHundredsRow.wrapper Rows.fnExactCountByHundredsRow.mainSum := by
  unfold Func.isWrapper
  first | (rw [if_pos (by decide +kernel)]; kernel_rfl) | (rw [if_neg (by decide +kernel)]; exact ⟨rfl, rfl⟩)
theorem facts : joinedFacts Try.prog 10 Try.f10 Rows.fnExactCountByHundredsSpec Rows.fnExactCountByHundredsRow = true :=
  facts_of Try.prog 10 Try.f10 Rows.fnExactCountByHundredsSpec Rows.fnExactCountByHundredsRow mayEnter_ liftsFinal_ make_ rfl rfl k1 k2 k3 k4 k5 (by kernel_rfl) (by kernel_rfl) (by kernel_rfl) (by kernel_rfl) (by kernel_rfl) (by kernel_rfl) (by kernel_rfl) (by kernel_rfl) (by kernel_rfl) (by kernel_rfl) (by kernel_rfl) (by kernel_rfl) (by kernel_rfl) (by kernel_rfl) (by kernel_rfl) (by kernel_rfl)
theorem over : Rows.fnExactCountByHundredsRow.holds Try.pinned (OpenSpec.ofChange Rows.fnExactCountByHundredsSpec) :=
  OpenClaim.holds_of_wide 10 Try.f10 rfl rfl rfl rfl rfl rfl rfl ⟨rfl, rfl, rfl, rfl, rfl⟩ rfl rfl rfl rfl rfl hfn Try.func10 facts hinst hwrap
    (fun os started H enc _ => lifted os started H enc)
theorem proved : Rows.FnExactCountByHundredsSaid := over

end Go.Proofs.Ytgdhopcbiekhhaa.fnExactCountByHundreds
namespace Go.Proofs.Ytgdhopcbiekhhaa
/-- The row, under a short name, for the claim. -/
theorem fnExactCountByHundreds_holds : Rows.FnExactCountByHundredsSaid := fnExactCountByHundreds.proved
end Go.Proofs.Ytgdhopcbiekhhaa
