/- The row of the statement FnStanding: the law's function returns true of every input. No condition. -/
import Derived.Test.YtdippdkneeocfaaSeat
import Derived.Test.YtdippdkneeocfaaWkFnStand
import Derived.Test.YtdippdkneeocfaaOpenU
import Derived.WalkKit
import Derived.ProofKit
import Derived.OpenShut
import Derived.ShutString
import Derived.ChangeOld
import Derived.Below
import Derived.SizedLaws
import Derived.Carry
namespace Go.Proofs.Ytdippdkneeocfaa.fnStanding
open Go.ChangeShapes Go.WideShapes Go.ChangeAt Go.RowKit
open Go.ChangeMaps (open_string shut_string)
set_option linter.unusedVariables false
set_option linter.unusedSimpArgs false
theorem own : ownKnob Try.prog.godebug = none := by kernel_rfl
set_option maxRecDepth 100000 in
theorem lifted (os : Os) (started : os.Started) (H : Type) (enc : TypeId × Value → H) :
    ReturnsInHanded {} Try.checked os 21 .any (Rows.fnStandingSpec.pre6 enc Try.prog Try.f21 Rows.fnStandingRow.domain false) (Rows.fnStandingSpec.post enc Try.prog Try.f21 false true false false) := by
  refine returnsInHanded_of_change_sized (C := Try.checked) own started (by kernel_rfl) Try.func21
    (ChangeSpec.witness6 (enc := enc) (C := Try.checked) false ⟨#[], #[.slice none 0 0, .slice none 0 0], []⟩ 8 (by kernel_rfl) (by kernel_rfl) (by kernel_rfl) (by kernel_rfl)) ?_
  intro W base args ds gs before hval0 hW hcnd hsz0 _
  have hval : ∀ (j : Nat) t v, Try.f21.params[j]? = some t → args[j]? = some v → Value.okWide Try.prog W .any base t v := hval0
  have hW' := hW
  obtain ⟨p, q, hA0, hV, rfl, hfz, hnd⟩ := hW
  have hA : DataW.TrodAll enc Try.prog W 0 (fun _ => true) true Try.f21.params.toList args.toList ds p := hA0
  rw [Try.params21] at hA hval
  obtain ⟨v0, vs0, d0, ds0, p0, q0, hargs0, rfl, rfl, h0, r0⟩ := trodAll_cons hA
  obtain ⟨v1, vs1, d1, ds1, p1, q1, rfl, rfl, rfl, h1, r1⟩ := trodAll_cons r0
  obtain ⟨rfl, rfl, rfl⟩ := trodAll_nil r1
  obtain rfl : args = #[v0, v1] := by cases args; simp_all
  obtain ⟨rfl, rfl⟩ := trodVars_none hV
  have lt0 : ∀ x ∈ p0, x.block < W.heap.size := fun x hx => by simpa using hW'.lt x (by simp [hx])
  have lt1 : ∀ x ∈ p1, x.block < W.heap.size := fun x hx => by simpa using hW'.lt x (by simp [hx])
  have fin : ∀ (e : Ending) (W' : World), Ret W (.bool true) e W' → ∃ v, e = .returned v ∧ Rows.fnStandingSpec.post enc Try.prog Try.f21 false true false false W #[v0, v1] v W' := by
    rintro e W' ⟨rfl, hb⟩
    exact ⟨_, rfl, _, _, _, [], (p0 ++ (p1 ++ [])), [], hW', trodAll_mk1 (shut_bool Try.underlying4 _), (trodAll_cons_mk (Below.trod laid (by kernel_rfl) (of_decide_eq_true (by kernel_rfl)) h0 hb lt0) (trodAll_cons_mk (Below.trod laid (by kernel_rfl) (of_decide_eq_true (by kernel_rfl)) h1 hb lt1) trodAll_mk0)), rfl, hb.frame _, fun h => by cases h⟩
  obtain ⟨A0, c0, L0, rfl, lc0, C0, ok0⟩ := open_u8s' (hval 0 85 v0 rfl rfl) h0
  obtain ⟨A1, c1, L1, rfl, lc1, C1, ok1⟩ := open_u8s' (hval 1 85 v1 rfl rfl) h1
  exact (FnStanding_c A0 c0 L0 lc0 C0 ok0 A1 c1 L1 lc1 C1 ok1).mono fin
theorem k1 : (Rows.fnStandingRow.wf (OpenSpec.ofChange Rows.fnStandingSpec) && laidOutB Try.prog && mapsRowed Try.prog && Try.f21.params.all (Try.prog.readableRec ·) && namedTie Try.prog Rows.fnStandingRow.named Rows.fnStandingSpec.vars && (Rows.fnStandingRow.stops == []) && (Try.prog.stops == []) && (Rows.fnStandingRow.knobs == []) && (Try.prog.stopKnobs == [])) = true := by kernel_rfl
theorem k2 : (Rows.fnStandingRow.inPlace == Try.prog.inPlace 21) = true := by kernel_rfl
theorem k3 : (Rows.fnStandingRow.unfollowed == Try.prog.unfollowed 21) = true := by kernel_rfl
theorem k4 : (Rows.fnStandingRow.recurses == Try.prog.recurses 21) = true := by kernel_rfl
theorem k5 : (Rows.fnStandingRow.named == Try.prog.varsNamed 21) = true := by kernel_rfl
theorem hfn : Try.prog.funcNamed Rows.fnStandingRow.func = some 21 := by kernel_rfl
theorem hinst : Try.f21.isInstance Try.prog Rows.fnStandingRow.origin Rows.fnStandingRow.targs := of_decide_eq_true (by kernel_rfl)
theorem hwrap : Try.f21.isWrapper Try.prog Rows.fnStandingRow.wrapper Rows.fnStandingRow.mainSum := by
  unfold Func.isWrapper
  first | (rw [if_pos (by decide +kernel)]; kernel_rfl) | (rw [if_neg (by decide +kernel)]; exact ⟨rfl, rfl⟩)
theorem facts : joinedFacts Try.prog 21 Try.f21 Rows.fnStandingSpec Rows.fnStandingRow = true :=
  facts_of Try.prog 21 Try.f21 Rows.fnStandingSpec Rows.fnStandingRow mayEnter_ liftsFinal_ make_ rfl rfl k1 k2 k3 k4 k5 (by kernel_rfl) (by kernel_rfl) (by kernel_rfl) (by kernel_rfl) (by kernel_rfl) (by kernel_rfl) (by kernel_rfl) (by kernel_rfl) (by kernel_rfl) (by kernel_rfl) (by kernel_rfl) (by kernel_rfl) (by kernel_rfl) (by kernel_rfl) (by kernel_rfl) (by kernel_rfl)
theorem over : Rows.fnStandingRow.holds Try.pinned (OpenSpec.ofChange Rows.fnStandingSpec) :=
  OpenClaim.holds_of_wide 21 Try.f21 rfl rfl rfl rfl rfl rfl rfl ⟨rfl, rfl, rfl, rfl, rfl⟩ rfl rfl rfl rfl rfl hfn Try.func21 facts hinst hwrap
    (fun os started H enc _ => lifted os started H enc)
theorem proved : Rows.FnStandingSaid := over

end Go.Proofs.Ytdippdkneeocfaa.fnStanding
namespace Go.Proofs.Ytdippdkneeocfaa
/-- The row, under a short name, for the claim. -/
theorem fnStanding_holds : Rows.FnStandingSaid := fnStanding.proved
end Go.Proofs.Ytdippdkneeocfaa
