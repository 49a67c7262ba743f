/- The row of the statement FnBestLayouts: the law's function returns true of every input. No condition. -/
import Derived.Test.YtdippdkneeocfaaSeat
import Derived.Test.YtdippdkneeocfaaWkFnBest
import Derived.Test.YtdippdkneeocfaaOpenU
import Derived.WalkKit
import Derived.ProofKit
import Derived.OpenShut
import Derived.ShutString
import Derived.ChangeOld
import Derived.Below
import Derived.SizedLaws
import Derived.Carry
namespace Go.Proofs.Ytdippdkneeocfaa.fnBestLayouts
open Go.ChangeShapes Go.WideShapes Go.ChangeAt Go.RowKit
open Go.ChangeMaps (open_string shut_string)
set_option linter.unusedVariables false
set_option linter.unusedSimpArgs false
theorem own : ownKnob Try.prog.godebug = none := by kernel_rfl
set_option maxRecDepth 100000 in
theorem lifted (os : Os) (started : os.Started) (H : Type) (enc : TypeId × Value → H) :
    ReturnsInHanded {} Try.checked os 25 .any (Rows.fnBestLayoutsSpec.pre6 enc Try.prog Try.f25 Rows.fnBestLayoutsRow.domain false) (Rows.fnBestLayoutsSpec.post enc Try.prog Try.f25 false true false false) := by
  refine returnsInHanded_of_change_sized (C := Try.checked) own started (by kernel_rfl) Try.func25
    (ChangeSpec.witness6 (enc := enc) (C := Try.checked) false ⟨#[], #[.slice none 0 0, .slice none 0 0], []⟩ 8 (by kernel_rfl) (by kernel_rfl) (by kernel_rfl) (by kernel_rfl)) ?_
  intro W base args ds gs before hval0 hW hcnd hsz0 _
  have hval : ∀ (j : Nat) t v, Try.f25.params[j]? = some t → args[j]? = some v → Value.okWide Try.prog W .any base t v := hval0
  have hW' := hW
  obtain ⟨p, q, hA0, hV, rfl, hfz, hnd⟩ := hW
  have hA : DataW.TrodAll enc Try.prog W 0 (fun _ => true) true Try.f25.params.toList args.toList ds p := hA0
  rw [Try.params25] at hA hval
  obtain ⟨v0, vs0, d0, ds0, p0, q0, hargs0, rfl, rfl, h0, r0⟩ := trodAll_cons hA
  obtain ⟨v1, vs1, d1, ds1, p1, q1, rfl, rfl, rfl, h1, r1⟩ := trodAll_cons r0
  obtain ⟨rfl, rfl, rfl⟩ := trodAll_nil r1
  obtain rfl : args = #[v0, v1] := by cases args; simp_all
  obtain ⟨rfl, rfl⟩ := trodVars_none hV
  have lt0 : ∀ x ∈ p0, x.block < W.heap.size := fun x hx => by simpa using hW'.lt x (by simp [hx])
  have lt1 : ∀ x ∈ p1, x.block < W.heap.size := fun x hx => by simpa using hW'.lt x (by simp [hx])
  have fin : ∀ (e : Ending) (W' : World), Ret W (.bool true) e W' → ∃ v, e = .returned v ∧ Rows.fnBestLayoutsSpec.post enc Try.prog Try.f25 false true false false W #[v0, v1] v W' := by
    rintro e W' ⟨rfl, hb⟩
    exact ⟨_, rfl, _, _, _, [], (p0 ++ (p1 ++ [])), [], hW', trodAll_mk1 (shut_bool Try.underlying4 _), (trodAll_cons_mk (Below.trod laid (by kernel_rfl) (of_decide_eq_true (by kernel_rfl)) h0 hb lt0) (trodAll_cons_mk (Below.trod laid (by kernel_rfl) (of_decide_eq_true (by kernel_rfl)) h1 hb lt1) trodAll_mk0)), rfl, hb.frame _, fun h => by cases h⟩
  obtain ⟨A0, c0, L0, rfl, lc0, C0, ok0⟩ := open_u8s' (hval 0 85 v0 rfl rfl) h0
  obtain ⟨A1, c1, L1, rfl, lc1, C1, ok1⟩ := open_u8s' (hval 1 85 v1 rfl rfl) h1
  exact (FnBestLayouts_c A0 c0 L0 lc0 C0 ok0 A1 c1 L1 lc1 C1 ok1).mono fin
theorem k1 : (Rows.fnBestLayoutsRow.wf (OpenSpec.ofChange Rows.fnBestLayoutsSpec) && laidOutB Try.prog && mapsRowed Try.prog && Try.f25.params.all (Try.prog.readableRec ·) && namedTie Try.prog Rows.fnBestLayoutsRow.named Rows.fnBestLayoutsSpec.vars && (Rows.fnBestLayoutsRow.stops == []) && (Try.prog.stops == []) && (Rows.fnBestLayoutsRow.knobs == []) && (Try.prog.stopKnobs == [])) = true := by kernel_rfl
theorem k2 : (Rows.fnBestLayoutsRow.inPlace == Try.prog.inPlace 25) = true := by kernel_rfl
theorem k3 : (Rows.fnBestLayoutsRow.unfollowed == Try.prog.unfollowed 25) = true := by kernel_rfl
theorem k4 : (Rows.fnBestLayoutsRow.recurses == Try.prog.recurses 25) = true := by kernel_rfl
theorem k5 : (Rows.fnBestLayoutsRow.named == Try.prog.varsNamed 25) = true := by kernel_rfl
theorem hfn : Try.prog.funcNamed Rows.fnBestLayoutsRow.func = some 25 := by kernel_rfl
theorem hinst : Try.f25.isInstance Try.prog Rows.fnBestLayoutsRow.origin Rows.fnBestLayoutsRow.targs := of_decide_eq_true (by kernel_rfl)
theorem hwrap : Try.f25.isWrapper Try.prog Rows.fnBestLayoutsRow.wrapper Rows.fnBestLayoutsRow.mainSum := by
  unfold Func.isWrapper
  first | (rw [if_pos (by decide +kernel)]; kernel_rfl) | (rw [if_neg (by decide +kernel)]; exact ⟨rfl, rfl⟩)
theorem facts : joinedFacts Try.prog 25 Try.f25 Rows.fnBestLayoutsSpec Rows.fnBestLayoutsRow = true :=
  facts_of Try.prog 25 Try.f25 Rows.fnBestLayoutsSpec Rows.fnBestLayoutsRow mayEnter_ liftsFinal_ make_ rfl rfl k1 k2 k3 k4 k5 (by kernel_rfl) (by kernel_rfl) (by kernel_rfl) (by kernel_rfl) (by kernel_rfl) (by kernel_rfl) (by kernel_rfl) (by kernel_rfl) (by kernel_rfl) (by kernel_rfl) (by kernel_rfl) (by kernel_rfl) (by kernel_rfl) (by kernel_rfl) (by kernel_rfl) (by kernel_rfl)
theorem over : Rows.fnBestLayoutsRow.holds Try.pinned (OpenSpec.ofChange Rows.fnBestLayoutsSpec) :=
  OpenClaim.holds_of_wide 25 Try.f25 rfl rfl rfl rfl rfl rfl rfl ⟨rfl, rfl, rfl, rfl, rfl⟩ rfl rfl rfl rfl rfl hfn Try.func25 facts hinst hwrap
    (fun os started H enc _ => lifted os started H enc)
theorem proved : Rows.FnBestLayoutsSaid := over

end Go.Proofs.Ytdippdkneeocfaa.fnBestLayouts
namespace Go.Proofs.Ytdippdkneeocfaa
/-- The row, under a short name, for the claim. -/
theorem fnBestLayouts_holds : Rows.FnBestLayoutsSaid := fnBestLayouts.proved
end Go.Proofs.Ytdippdkneeocfaa
