/- The row of the statement FnExactTableOf: the law's function returns true of every input. No condition. -/
import Derived.Test.YtdippdkneeocfaaSeat
import Derived.Test.YtdippdkneeocfaaWkTableOf
import Derived.Test.YtdippdkneeocfaaOpenC
import Derived.WalkKit
import Derived.ProofKit
import Derived.OpenShut
import Derived.ShutString
import Derived.ChangeOld
import Derived.Below
import Derived.SizedLaws
import Derived.Carry
namespace Go.Proofs.Ytdippdkneeocfaa.fnExactTableOf
open Go.ChangeShapes Go.WideShapes Go.ChangeAt Go.RowKit
open Go.ChangeMaps (open_string shut_string)
set_option linter.unusedVariables false
set_option linter.unusedSimpArgs false
theorem own : ownKnob Try.prog.godebug = none := by kernel_rfl
set_option maxRecDepth 100000 in
theorem lifted (os : Os) (started : os.Started) (H : Type) (enc : TypeId × Value → H) :
    ReturnsInHanded {} Try.checked os 22 .any (Rows.fnExactTableOfSpec.pre6 enc Try.prog Try.f22 Rows.fnExactTableOfRow.domain false) (Rows.fnExactTableOfSpec.post enc Try.prog Try.f22 false true false false) := by
  refine returnsInHanded_of_change_sized (C := Try.checked) own started (by kernel_rfl) Try.func22
    (ChangeSpec.witness6 (enc := enc) (C := Try.checked) false ⟨#[], #[.agg #[.int .i16 0, .int .i32 0, .slice none 0 0], .slice none 0 0], []⟩ 8 (by kernel_rfl) (by kernel_rfl) (by kernel_rfl) (by kernel_rfl)) ?_
  intro W base args ds gs before hval0 hW hcnd hsz0 _
  have hval : ∀ (j : Nat) t v, Try.f22.params[j]? = some t → args[j]? = some v → Value.okWide Try.prog W .any base t v := hval0
  have hW' := hW
  obtain ⟨p, q, hA0, hV, rfl, hfz, hnd⟩ := hW
  have hA : DataW.TrodAll enc Try.prog W 0 (fun _ => true) true Try.f22.params.toList args.toList ds p := hA0
  rw [Try.params22] at hA hval
  obtain ⟨v0, vs0, d0, ds0, p0, q0, hargs0, rfl, rfl, h0, r0⟩ := trodAll_cons hA
  obtain ⟨v1, vs1, d1, ds1, p1, q1, rfl, rfl, rfl, h1, r1⟩ := trodAll_cons r0
  obtain ⟨rfl, rfl, rfl⟩ := trodAll_nil r1
  obtain rfl : args = #[v0, v1] := by cases args; simp_all
  obtain ⟨rfl, rfl⟩ := trodVars_none hV
  have lt0 : ∀ x ∈ p0, x.block < W.heap.size := fun x hx => by simpa using hW'.lt x (by simp [hx])
  have lt1 : ∀ x ∈ p1, x.block < W.heap.size := fun x hx => by simpa using hW'.lt x (by simp [hx])
  have fin : ∀ (e : Ending) (W' : World), Ret W (.bool true) e W' → ∃ v, e = .returned v ∧ Rows.fnExactTableOfSpec.post enc Try.prog Try.f22 false true false false W #[v0, v1] v W' := by
    rintro e W' ⟨rfl, hb⟩
    exact ⟨_, rfl, _, _, _, [], (p0 ++ (p1 ++ [])), [], hW', trodAll_mk1 (shut_bool Try.underlying4 _), (trodAll_cons_mk (Below.trod laid (by kernel_rfl) (of_decide_eq_true (by kernel_rfl)) h0 hb lt0) (trodAll_cons_mk (Below.trod laid (by kernel_rfl) (of_decide_eq_true (by kernel_rfl)) h1 hb lt1) trodAll_mk0)), rfl, hb.frame _, fun h => by cases h⟩
  obtain ⟨k0, A0, c0, rfl, lc0, C0, ok0⟩ := open_case (hval 0 48 v0 rfl rfl) h0
  obtain ⟨A1, c1, L1, rfl, lc1, C1, ok1⟩ := open_books (hval 1 30 v1 rfl rfl) h1
  exact (FnExactTableOf_c k0 A0 c0 lc0 C0 ok0 A1 c1 L1 lc1 C1 ok1).mono fin
theorem k1 : (Rows.fnExactTableOfRow.wf (OpenSpec.ofChange Rows.fnExactTableOfSpec) && laidOutB Try.prog && mapsRowed Try.prog && Try.f22.params.all (Try.prog.readableRec ·) && namedTie Try.prog Rows.fnExactTableOfRow.named Rows.fnExactTableOfSpec.vars && (Rows.fnExactTableOfRow.stops == []) && (Try.prog.stops == []) && (Rows.fnExactTableOfRow.knobs == []) && (Try.prog.stopKnobs == [])) = true := by kernel_rfl
theorem k2 : (Rows.fnExactTableOfRow.inPlace == Try.prog.inPlace 22) = true := by kernel_rfl
theorem k3 : (Rows.fnExactTableOfRow.unfollowed == Try.prog.unfollowed 22) = true := by kernel_rfl
theorem k4 : (Rows.fnExactTableOfRow.recurses == Try.prog.recurses 22) = true := by kernel_rfl
theorem k5 : (Rows.fnExactTableOfRow.named == Try.prog.varsNamed 22) = true := by kernel_rfl
theorem hfn : Try.prog.funcNamed Rows.fnExactTableOfRow.func = some 22 := by kernel_rfl
theorem hinst : Try.f22.isInstance Try.prog Rows.fnExactTableOfRow.origin Rows.fnExactTableOfRow.targs := of_decide_eq_true (by kernel_rfl)
theorem hwrap : Try.f22.isWrapper Try.prog Rows.fnExactTableOfRow.wrapper Rows.fnExactTableOfRow.mainSum := by
  unfold Func.isWrapper
  first | (rw [if_pos (by decide +kernel)]; kernel_rfl) | (rw [if_neg (by decide +kernel)]; exact ⟨rfl, rfl⟩)
theorem facts : joinedFacts Try.prog 22 Try.f22 Rows.fnExactTableOfSpec Rows.fnExactTableOfRow = true :=
  facts_of Try.prog 22 Try.f22 Rows.fnExactTableOfSpec Rows.fnExactTableOfRow mayEnter_ liftsFinal_ make_ rfl rfl k1 k2 k3 k4 k5 (by kernel_rfl) (by kernel_rfl) (by kernel_rfl) (by kernel_rfl) (by kernel_rfl) (by kernel_rfl) (by kernel_rfl) (by kernel_rfl) (by kernel_rfl) (by kernel_rfl) (by kernel_rfl) (by kernel_rfl) (by kernel_rfl) (by kernel_rfl) (by kernel_rfl) (by kernel_rfl)
theorem over : Rows.fnExactTableOfRow.holds Try.pinned (OpenSpec.ofChange Rows.fnExactTableOfSpec) :=
  OpenClaim.holds_of_wide 22 Try.f22 rfl rfl rfl rfl rfl rfl rfl ⟨rfl, rfl, rfl, rfl, rfl⟩ rfl rfl rfl rfl rfl hfn Try.func22 facts hinst hwrap
    (fun os started H enc _ => lifted os started H enc)
theorem proved : Rows.FnExactTableOfSaid := over

end Go.Proofs.Ytdippdkneeocfaa.fnExactTableOf
namespace Go.Proofs.Ytdippdkneeocfaa
/-- The row, under a short name, for the claim. -/
theorem fnExactTableOf_holds : Rows.FnExactTableOfSaid := fnExactTableOf.proved
end Go.Proofs.Ytdippdkneeocfaa
