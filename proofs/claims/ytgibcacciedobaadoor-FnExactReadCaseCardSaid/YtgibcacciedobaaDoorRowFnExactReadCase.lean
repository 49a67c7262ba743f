/- The card of the statement FnExactReadCase: the law's function returns true of every input, the listed variables tied to the program's text. No condition. -/
import Derived.Test.YtgibcacciedobaaDoorSeat
import Derived.Test.YtgibcacciedobaaDoorCards
import Derived.Test.YtgibcacciedobaaDoorTie
import Derived.Test.YtgibcacciedobaaDoorWkReadCase
import Derived.Test.YtgibcacciedobaaDoorLaidR
import Derived.Test.YtgibcacciedobaaDoorOpen
import Derived.WalkKit
import Derived.ProofKit
import Derived.OpenShut
import Derived.ShutString
import Derived.ChangeOld
import Derived.Below
import Derived.SizedLaws
import Derived.Carry
import Derived.Deep.DeepHandedRow
import Derived.Deep.DeepWitnessRowRef
import Derived.SevenTiedAt
namespace Go.Proofs.YtgibcacciedobaaDoor.fnExactReadCase
open Go.ChangeShapes Go.WideShapes Go.ChangeAt Go.RowKit
open Go.ChangeMaps (open_string shut_string)
set_option linter.unusedVariables false
set_option linter.unusedSimpArgs false
theorem own : ownKnob Tryd.prog.godebug = none := by kernel_rfl
theorem laid_met (os : Os) : laidMetH Tryd.prog Rows.fnExactReadCaseRow.laid ((startWorld7 os).forCall (fun _ _ => 0) ⟨#[], #[.string ⟨#[]⟩], []⟩).memory := start_met7 os _
set_option maxRecDepth 100000
theorem start_row (os : Os) {H : Type} (enc : TypeId × Value → H) : (OpenSpec.ofChange Rows.fnExactReadCaseSpec).preRow enc Tryd.prog Tryd.f10 Rows.fnExactReadCaseRow.domain false Rows.fnExactReadCaseRow.laid ((startWorld7 os).forCall (fun _ _ => 0) ⟨#[], #[.string ⟨#[]⟩], []⟩).memory #[.string ⟨#[]⟩] :=
  OpenSpec.preRow_of_B rfl 8 (by kernel_rfl) (by kernel_rfl) (laid_met os)
theorem lifted (os : Os) (started : os.Started) (H : Type) (enc : TypeId × Value → H) (F : Stop.Interp) :
    ReturnsInHanded {} Tryd.checked os 10 .any ((OpenSpec.ofChange Rows.fnExactReadCaseSpec).preRow enc Tryd.prog Tryd.f10 Rows.fnExactReadCaseRow.domain false Rows.fnExactReadCaseRow.laid) (((OpenSpec.ofChange Rows.fnExactReadCaseSpec).at F).post enc Tryd.prog Tryd.f10 false true false false) := by
  refine returnsInHanded_of_row (C := Tryd.checked) (s := OpenSpec.ofChange Rows.fnExactReadCaseSpec) own started (by kernel_rfl) Tryd.func10 (witness_row_atRef (enc := enc) (C := Tryd.checked) false (startWorld7 os) #[.string ⟨#[]⟩] rfl (by kernel_rfl) (by kernel_rfl) (by kernel_rfl) (start_row os enc)) ?_
  intro W base args ds gs before hval0 hW _ _ _ hLd hsh _
  have hval : ∀ (j : Nat) t v, Tryd.f10.params[j]? = some t → args[j]? = some v → Value.okWide Tryd.prog W .any base t v := hval0
  have ht := start_txt hLd hsh
  have hW' := hW
  obtain ⟨p, q, hA0, hV, rfl, hfz, hnd⟩ := hW
  have hA : DataW.TrodAll enc Tryd.prog W 0 (fun _ => true) true Tryd.f10.params.toList args.toList ds p := hA0
  rw [Tryd.params10] at hA hval
  obtain ⟨v0, vs0, d0, ds0, p0, q0, hargs0, rfl, rfl, h0, r0⟩ := trodAll_cons hA
  obtain ⟨rfl, rfl, rfl⟩ := trodAll_nil r0
  obtain rfl : args = #[v0] := by cases args; simp_all
  obtain ⟨rfl, rfl⟩ := trodVars_none hV
  have lt0 : ∀ x ∈ p0, x.block < W.heap.size := fun x hx => by simpa using hW'.lt x (by simp [hx])
  have fin : ∀ (e : Ending) (W' : World), Ret W (.bool true) e W' → ∃ v, e = .returned v ∧ Rows.fnExactReadCaseSpec.post enc Tryd.prog Tryd.f10 false true false false W #[v0] v W' := by
    rintro e W' ⟨rfl, hb⟩
    exact ⟨_, rfl, _, _, _, [], (p0 ++ []), [], hW', trodAll_mk1 (shut_bool Tryd.underlying4 _), (trodAll_cons_mk (Below.trod laid (by kernel_rfl) (of_decide_eq_true (by kernel_rfl)) h0 hb lt0) trodAll_mk0), rfl, hb.frame _, fun h => by cases h⟩
  obtain ⟨s0, rfl, e0, f0, wf0⟩ := open_string Tryd.underlying9 (hval 0 9 v0 rfl rfl) h0
  exact (FnExactReadCase_c s0 wf0 W ht).mono fin
theorem k1 : (Rows.fnExactReadCaseRow.wf (OpenSpec.ofChange Rows.fnExactReadCaseSpec) && laidOutB Tryd.prog && mapsRowed Tryd.prog && Tryd.f10.params.all (Tryd.prog.readableRec ·) && namedTie Tryd.prog Rows.fnExactReadCaseRow.named Rows.fnExactReadCaseSpec.vars && (Rows.fnExactReadCaseRow.stops == []) && (Tryd.prog.stops == []) && (Rows.fnExactReadCaseRow.knobs == []) && (Tryd.prog.stopKnobs == [])) = true := by kernel_rfl
theorem k2 : (Rows.fnExactReadCaseRow.inPlace == Tryd.prog.inPlace 10) = true := by kernel_rfl
theorem k3 : (Rows.fnExactReadCaseRow.unfollowed == Tryd.prog.unfollowed 10) = true := by kernel_rfl
theorem k4 : (Rows.fnExactReadCaseRow.recurses == Tryd.prog.recurses 10) = true := by kernel_rfl
theorem k5 : (Rows.fnExactReadCaseRow.named == Tryd.prog.varsNamed 10) = true := by kernel_rfl
theorem hfn : Tryd.prog.funcNamed Rows.fnExactReadCaseRow.func = some 10 := by kernel_rfl
theorem hinst : Tryd.f10.isInstance Tryd.prog Rows.fnExactReadCaseRow.origin Rows.fnExactReadCaseRow.targs := of_decide_eq_true (by kernel_rfl)
theorem hwrap : Tryd.f10.isWrapper Tryd.prog Rows.fnExactReadCaseRow.wrapper Rows.fnExactReadCaseRow.mainSum := by
  unfold Func.isWrapper
  first | (rw [if_pos (by decide +kernel)]; kernel_rfl) | (rw [if_neg (by decide +kernel)]; exact ⟨rfl, rfl⟩)
theorem facts : joinedFacts Tryd.prog 10 Tryd.f10 Rows.fnExactReadCaseSpec Rows.fnExactReadCaseRow = true :=
  facts_of Tryd.prog 10 Tryd.f10 Rows.fnExactReadCaseSpec Rows.fnExactReadCaseRow mayEnter_ liftsFinal_ make_ rfl rfl k1 k2 k3 k4 k5 (by kernel_rfl) (by kernel_rfl) (by kernel_rfl) (by kernel_rfl) (by kernel_rfl) (by kernel_rfl) (by kernel_rfl) (by kernel_rfl) (by kernel_rfl) (by kernel_rfl) (by kernel_rfl) (by kernel_rfl) (by kernel_rfl) (by kernel_rfl) (by kernel_rfl) (by kernel_rfl)
theorem over : Rows.fnExactReadCaseRow.holds Tryd.pinned (OpenSpec.ofChange Rows.fnExactReadCaseSpec) :=
  OpenClaim.holds_of_cond 10 Tryd.f10 rfl rfl rfl rfl rfl rfl rfl ⟨rfl, rfl, rfl, rfl, rfl⟩ rfl rfl rfl rfl rfl hfn Tryd.func10 facts hinst hwrap
    (fun os started H enc _ F => by rw [OpenClaim.pre_eq_preRow]; exact lifted os started H enc F)
theorem proved : Rows.FnExactReadCaseSaid := over

theorem plain (f : FuncId) (fn : Func) (hf : Tryd.pinned.checked.prog.funcNamed "loop.example/g01326/laws.FnExactReadCase" = some f) (hfn : Tryd.pinned.checked.prog.funcs[f]? = some fn) :
    true = Tryd.pinned.checked.prog.looks [] ∧ ∀ (j : Nat) t, fn.params[j]? = some t → Tryd.pinned.checked.prog.wantsStandIn t = false := by
  obtain rfl : f = 10 := Option.some.inj ((show Tryd.prog.funcNamed "loop.example/g01326/laws.FnExactReadCase" = some 10 by kernel_rfl).symm.trans hf) |>.symm
  obtain rfl : fn = Tryd.f10 := (Option.some.inj (Tryd.func10.symm.trans hfn)).symm
  refine ⟨by kernel_rfl, fun j t ht => ?_⟩
  rw [Tryd.params10] at ht
  have hm : t ∈ [9] := by simpa using Array.mem_of_getElem? ht
  have hall : ([9].all fun u => !Tryd.prog.wantsStandIn u) = true := by kernel_rfl
  exact (show Tryd.prog.wantsStandIn t = false by simpa using List.all_eq_true.1 hall t hm)
theorem card : Rows.FnExactReadCaseCardSaid :=
  Claim7.holds_tied_plain_at .later [] _ _ _ _ proved (fun _ h => by cases h) (by kernel_rfl) (fun _ h => by cases h) fnExactReadCase_row_tie rfl ⟨rfl, rfl⟩ (by kernel_rfl) rfl plain (by kernel_rfl)
end Go.Proofs.YtgibcacciedobaaDoor.fnExactReadCase
namespace Go.Proofs.YtgibcacciedobaaDoor
/-- The card, under a short name, for the claim. -/
theorem fnExactReadCase_holds : Rows.FnExactReadCaseCardSaid := fnExactReadCase.card
end Go.Proofs.YtgibcacciedobaaDoor
