/- The card of the statement FnExactBooksText: the law's function returns true of every input, the listed variables tied to the program's text. No condition. -/
import Derived.Test.YtgibcacciedobaaDoorSeat
import Derived.Test.YtgibcacciedobaaDoorCards
import Derived.Test.YtgibcacciedobaaDoorTie
import Derived.Test.YtgibcacciedobaaDoorWkBooksText
import Derived.Test.YtgibcacciedobaaDoorLaid
import Derived.Test.YtgibcacciedobaaDoorOpen
import Derived.WalkKit
import Derived.ProofKit
import Derived.OpenShut
import Derived.ShutString
import Derived.ChangeOld
import Derived.Below
import Derived.SizedLaws
import Derived.Carry
import Derived.Deep.DeepHandedRow
import Derived.Deep.DeepWitnessRowRef
import Derived.SevenTiedAt
namespace Go.Proofs.YtgibcacciedobaaDoor.fnExactBooksText
open Go.ChangeShapes Go.WideShapes Go.ChangeAt Go.RowKit
open Go.ChangeMaps (open_string shut_string)
set_option linter.unusedVariables false
set_option linter.unusedSimpArgs false
theorem own : ownKnob Tryd.prog.godebug = none := by kernel_rfl
theorem laid_met (os : Os) : laidMetH Tryd.prog Rows.fnExactBooksTextRow.laid ((startWorld os).forCall (fun _ _ => 0) ⟨#[], #[.slice none 0 0], []⟩).memory := start_met os _
set_option maxRecDepth 100000
theorem start_row (os : Os) {H : Type} (enc : TypeId × Value → H) : (OpenSpec.ofChange Rows.fnExactBooksTextSpec).preRow enc Tryd.prog Tryd.f4 Rows.fnExactBooksTextRow.domain false Rows.fnExactBooksTextRow.laid ((startWorld os).forCall (fun _ _ => 0) ⟨#[], #[.slice none 0 0], []⟩).memory #[.slice none 0 0] :=
  OpenSpec.preRow_of_B rfl 8 (by kernel_rfl) (by kernel_rfl) (laid_met os)
theorem lifted (os : Os) (started : os.Started) (H : Type) (enc : TypeId × Value → H) (F : Stop.Interp) :
    ReturnsInHanded {} Tryd.checked os 4 .any ((OpenSpec.ofChange Rows.fnExactBooksTextSpec).preRow enc Tryd.prog Tryd.f4 Rows.fnExactBooksTextRow.domain false Rows.fnExactBooksTextRow.laid) (((OpenSpec.ofChange Rows.fnExactBooksTextSpec).at F).post enc Tryd.prog Tryd.f4 false true false false) := by
  refine returnsInHanded_of_row (C := Tryd.checked) (s := OpenSpec.ofChange Rows.fnExactBooksTextSpec) own started (by kernel_rfl) Tryd.func4 (witness_row_atRef (enc := enc) (C := Tryd.checked) false (startWorld os) #[.slice none 0 0] rfl (by kernel_rfl) (by kernel_rfl) (by kernel_rfl) (start_row os enc)) ?_
  intro W base args ds gs before hval0 hW _ _ _ hLd hsh _
  have hval : ∀ (j : Nat) t v, Tryd.f4.params[j]? = some t → args[j]? = some v → Value.okWide Tryd.prog W .any base t v := hval0
  have ht := start_tab hLd
  have hW' := hW
  obtain ⟨p, q, hA0, hV, rfl, hfz, hnd⟩ := hW
  have hA : DataW.TrodAll enc Tryd.prog W 0 (fun _ => true) true Tryd.f4.params.toList args.toList ds p := hA0
  rw [Tryd.params4] at hA hval
  obtain ⟨v0, vs0, d0, ds0, p0, q0, hargs0, rfl, rfl, h0, r0⟩ := trodAll_cons hA
  obtain ⟨rfl, rfl, rfl⟩ := trodAll_nil r0
  obtain rfl : args = #[v0] := by cases args; simp_all
  obtain ⟨rfl, rfl⟩ := trodVars_none hV
  have lt0 : ∀ x ∈ p0, x.block < W.heap.size := fun x hx => by simpa using hW'.lt x (by simp [hx])
  have fin : ∀ (e : Ending) (W' : World), Ret W (.bool true) e W' → ∃ v, e = .returned v ∧ Rows.fnExactBooksTextSpec.post enc Tryd.prog Tryd.f4 false true false false W #[v0] v W' := by
    rintro e W' ⟨rfl, hb⟩
    exact ⟨_, rfl, _, _, _, [], (p0 ++ []), [], hW', trodAll_mk1 (shut_bool Tryd.underlying4 _), (trodAll_cons_mk (Below.trod laid (by kernel_rfl) (of_decide_eq_true (by kernel_rfl)) h0 hb lt0) trodAll_mk0), rfl, hb.frame _, fun h => by cases h⟩
  obtain ⟨A0, c0, L0, rfl, lc0, C0, ok0⟩ := open_books (hval 0 30 v0 rfl rfl) h0
  exact (FnExactBooksText_c A0 c0 L0 lc0 C0 ok0 ht).mono fin
theorem k1 : (Rows.fnExactBooksTextRow.wf (OpenSpec.ofChange Rows.fnExactBooksTextSpec) && laidOutB Tryd.prog && mapsRowed Tryd.prog && Tryd.f4.params.all (Tryd.prog.readableRec ·) && namedTie Tryd.prog Rows.fnExactBooksTextRow.named Rows.fnExactBooksTextSpec.vars && (Rows.fnExactBooksTextRow.stops == []) && (Tryd.prog.stops == []) && (Rows.fnExactBooksTextRow.knobs == []) && (Tryd.prog.stopKnobs == [])) = true := by kernel_rfl
theorem k2 : (Rows.fnExactBooksTextRow.inPlace == Tryd.prog.inPlace 4) = true := by kernel_rfl
theorem k3 : (Rows.fnExactBooksTextRow.unfollowed == Tryd.prog.unfollowed 4) = true := by kernel_rfl
theorem k4 : (Rows.fnExactBooksTextRow.recurses == Tryd.prog.recurses 4) = true := by kernel_rfl
theorem k5 : (Rows.fnExactBooksTextRow.named == Tryd.prog.varsNamed 4) = true := by kernel_rfl
theorem hfn : Tryd.prog.funcNamed Rows.fnExactBooksTextRow.func = some 4 := by kernel_rfl
theorem hinst : Tryd.f4.isInstance Tryd.prog Rows.fnExactBooksTextRow.origin Rows.fnExactBooksTextRow.targs := of_decide_eq_true (by kernel_rfl)
theorem hwrap : Tryd.f4.isWrapper Tryd.prog Rows.fnExactBooksTextRow.wrapper Rows.fnExactBooksTextRow.mainSum := by
  unfold Func.isWrapper
  first | (rw [if_pos (by decide +kernel)]; kernel_rfl) | (rw [if_neg (by decide +kernel)]; exact ⟨rfl, rfl⟩)
theorem facts : joinedFacts Tryd.prog 4 Tryd.f4 Rows.fnExactBooksTextSpec Rows.fnExactBooksTextRow = true :=
  facts_of Tryd.prog 4 Tryd.f4 Rows.fnExactBooksTextSpec Rows.fnExactBooksTextRow mayEnter_ liftsFinal_ make_ rfl rfl k1 k2 k3 k4 k5 (by kernel_rfl) (by kernel_rfl) (by kernel_rfl) (by kernel_rfl) (by kernel_rfl) (by kernel_rfl) (by kernel_rfl) (by kernel_rfl) (by kernel_rfl) (by kernel_rfl) (by kernel_rfl) (by kernel_rfl) (by kernel_rfl) (by kernel_rfl) (by kernel_rfl) (by kernel_rfl)
theorem over : Rows.fnExactBooksTextRow.holds Tryd.pinned (OpenSpec.ofChange Rows.fnExactBooksTextSpec) :=
  OpenClaim.holds_of_cond 4 Tryd.f4 rfl rfl rfl rfl rfl rfl rfl ⟨rfl, rfl, rfl, rfl, rfl⟩ rfl rfl rfl rfl rfl hfn Tryd.func4 facts hinst hwrap
    (fun os started H enc _ F => by rw [OpenClaim.pre_eq_preRow]; exact lifted os started H enc F)
theorem proved : Rows.FnExactBooksTextSaid := over

theorem plain (f : FuncId) (fn : Func) (hf : Tryd.pinned.checked.prog.funcNamed "loop.example/g01326/laws.FnExactBooksText" = some f) (hfn : Tryd.pinned.checked.prog.funcs[f]? = some fn) :
    true = Tryd.pinned.checked.prog.looks [] ∧ ∀ (j : Nat) t, fn.params[j]? = some t → Tryd.pinned.checked.prog.wantsStandIn t = false := by
  obtain rfl : f = 4 := Option.some.inj ((show Tryd.prog.funcNamed "loop.example/g01326/laws.FnExactBooksText" = some 4 by kernel_rfl).symm.trans hf) |>.symm
  obtain rfl : fn = Tryd.f4 := (Option.some.inj (Tryd.func4.symm.trans hfn)).symm
  refine ⟨by kernel_rfl, fun j t ht => ?_⟩
  rw [Tryd.params4] at ht
  have hm : t ∈ [30] := by simpa using Array.mem_of_getElem? ht
  have hall : ([30].all fun u => !Tryd.prog.wantsStandIn u) = true := by kernel_rfl
  exact (show Tryd.prog.wantsStandIn t = false by simpa using List.all_eq_true.1 hall t hm)
theorem card : Rows.FnExactBooksTextCardSaid :=
  Claim7.holds_tied_plain_at .later [] _ _ _ _ proved (fun _ h => by cases h) (by kernel_rfl) (fun _ h => by cases h) fnExactBooksText_row_tie rfl ⟨rfl, rfl⟩ (by kernel_rfl) rfl plain (by kernel_rfl)
end Go.Proofs.YtgibcacciedobaaDoor.fnExactBooksText
namespace Go.Proofs.YtgibcacciedobaaDoor
/-- The card, under a short name, for the claim. -/
theorem fnExactBooksText_holds : Rows.FnExactBooksTextCardSaid := fnExactBooksText.card
end Go.Proofs.YtgibcacciedobaaDoor
