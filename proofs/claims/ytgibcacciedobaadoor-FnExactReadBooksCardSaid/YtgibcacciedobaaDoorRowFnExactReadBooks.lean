/- The card of the statement FnExactReadBooks: the law's function returns true of every input, the listed variables tied to the program's text. No condition. -/
import Derived.Test.YtgibcacciedobaaDoorSeat
import Derived.Test.YtgibcacciedobaaDoorCards
import Derived.Test.YtgibcacciedobaaDoorTie
import Derived.Test.YtgibcacciedobaaDoorWkReadBooks
import Derived.Test.YtgibcacciedobaaDoorLaidR
import Derived.Test.YtgibcacciedobaaDoorOpen
import Derived.WalkKit
import Derived.ProofKit
import Derived.OpenShut
import Derived.ShutString
import Derived.ChangeOld
import Derived.Below
import Derived.SizedLaws
import Derived.Carry
import Derived.Deep.DeepHandedRow
import Derived.Deep.DeepWitnessRowRef
import Derived.SevenTiedAt
namespace Go.Proofs.YtgibcacciedobaaDoor.fnExactReadBooks
open Go.ChangeShapes Go.WideShapes Go.ChangeAt Go.RowKit
open Go.ChangeMaps (open_string shut_string)
set_option linter.unusedVariables false
set_option linter.unusedSimpArgs false
theorem own : ownKnob Tryd.prog.godebug = none := by kernel_rfl
theorem laid_met (os : Os) : laidMetH Tryd.prog Rows.fnExactReadBooksRow.laid ((startWorld7 os).forCall (fun _ _ => 0) ⟨#[], #[.string ⟨#[]⟩], []⟩).memory := start_met7 os _
set_option maxRecDepth 100000
theorem start_row (os : Os) {H : Type} (enc : TypeId × Value → H) : (OpenSpec.ofChange Rows.fnExactReadBooksSpec).preRow enc Tryd.prog Tryd.f6 Rows.fnExactReadBooksRow.domain false Rows.fnExactReadBooksRow.laid ((startWorld7 os).forCall (fun _ _ => 0) ⟨#[], #[.string ⟨#[]⟩], []⟩).memory #[.string ⟨#[]⟩] :=
  OpenSpec.preRow_of_B rfl 8 (by kernel_rfl) (by kernel_rfl) (laid_met os)
theorem lifted (os : Os) (started : os.Started) (H : Type) (enc : TypeId × Value → H) (F : Stop.Interp) :
    ReturnsInHanded {} Tryd.checked os 6 .any ((OpenSpec.ofChange Rows.fnExactReadBooksSpec).preRow enc Tryd.prog Tryd.f6 Rows.fnExactReadBooksRow.domain false Rows.fnExactReadBooksRow.laid) (((OpenSpec.ofChange Rows.fnExactReadBooksSpec).at F).post enc Tryd.prog Tryd.f6 false true false false) := by
  refine returnsInHanded_of_row (C := Tryd.checked) (s := OpenSpec.ofChange Rows.fnExactReadBooksSpec) own started (by kernel_rfl) Tryd.func6 (witness_row_atRef (enc := enc) (C := Tryd.checked) false (startWorld7 os) #[.string ⟨#[]⟩] rfl (by kernel_rfl) (by kernel_rfl) (by kernel_rfl) (start_row os enc)) ?_
  intro W base args ds gs before hval0 hW _ _ _ hLd hsh _
  have hval : ∀ (j : Nat) t v, Tryd.f6.params[j]? = some t → args[j]? = some v → Value.okWide Tryd.prog W .any base t v := hval0
  have ht := start_txt hLd hsh
  have hW' := hW
  obtain ⟨p, q, hA0, hV, rfl, hfz, hnd⟩ := hW
  have hA : DataW.TrodAll enc Tryd.prog W 0 (fun _ => true) true Tryd.f6.params.toList args.toList ds p := hA0
  rw [Tryd.params6] at hA hval
  obtain ⟨v0, vs0, d0, ds0, p0, q0, hargs0, rfl, rfl, h0, r0⟩ := trodAll_cons hA
  obtain ⟨rfl, rfl, rfl⟩ := trodAll_nil r0
  obtain rfl : args = #[v0] := by cases args; simp_all
  obtain ⟨rfl, rfl⟩ := trodVars_none hV
  have lt0 : ∀ x ∈ p0, x.block < W.heap.size := fun x hx => by simpa using hW'.lt x (by simp [hx])
  have fin : ∀ (e : Ending) (W' : World), Ret W (.bool true) e W' → ∃ v, e = .returned v ∧ Rows.fnExactReadBooksSpec.post enc Tryd.prog Tryd.f6 false true false false W #[v0] v W' := by
    rintro e W' ⟨rfl, hb⟩
    exact ⟨_, rfl, _, _, _, [], (p0 ++ []), [], hW', trodAll_mk1 (shut_bool Tryd.underlying4 _), (trodAll_cons_mk (Below.trod laid (by kernel_rfl) (of_decide_eq_true (by kernel_rfl)) h0 hb lt0) trodAll_mk0), rfl, hb.frame _, fun h => by cases h⟩
  obtain ⟨s0, rfl, e0, f0, wf0⟩ := open_string Tryd.underlying9 (hval 0 9 v0 rfl rfl) h0
  exact (FnExactReadBooks_c s0 wf0 W ht).mono fin
theorem k1 : (Rows.fnExactReadBooksRow.wf (OpenSpec.ofChange Rows.fnExactReadBooksSpec) && laidOutB Tryd.prog && mapsRowed Tryd.prog && Tryd.f6.params.all (Tryd.prog.readableRec ·) && namedTie Tryd.prog Rows.fnExactReadBooksRow.named Rows.fnExactReadBooksSpec.vars && (Rows.fnExactReadBooksRow.stops == []) && (Tryd.prog.stops == []) && (Rows.fnExactReadBooksRow.knobs == []) && (Tryd.prog.stopKnobs == [])) = true := by kernel_rfl
theorem k2 : (Rows.fnExactReadBooksRow.inPlace == Tryd.prog.inPlace 6) = true := by kernel_rfl
theorem k3 : (Rows.fnExactReadBooksRow.unfollowed == Tryd.prog.unfollowed 6) = true := by kernel_rfl
theorem k4 : (Rows.fnExactReadBooksRow.recurses == Tryd.prog.recurses 6) = true := by kernel_rfl
theorem k5 : (Rows.fnExactReadBooksRow.named == Tryd.prog.varsNamed 6) = true := by kernel_rfl
theorem hfn : Tryd.prog.funcNamed Rows.fnExactReadBooksRow.func = some 6 := by kernel_rfl
theorem hinst : Tryd.f6.isInstance Tryd.prog Rows.fnExactReadBooksRow.origin Rows.fnExactReadBooksRow.targs := of_decide_eq_true (by kernel_rfl)
theorem hwrap : Tryd.f6.isWrapper Tryd.prog Rows.fnExactReadBooksRow.wrapper Rows.fnExactReadBooksRow.mainSum := by
  unfold Func.isWrapper
  first | (rw [if_pos (by decide +kernel)]; kernel_rfl) | (rw [if_neg (by decide +kernel)]; exact ⟨rfl, rfl⟩)
theorem facts : joinedFacts Tryd.prog 6 Tryd.f6 Rows.fnExactReadBooksSpec Rows.fnExactReadBooksRow = true :=
  facts_of Tryd.prog 6 Tryd.f6 Rows.fnExactReadBooksSpec Rows.fnExactReadBooksRow mayEnter_ liftsFinal_ make_ rfl rfl k1 k2 k3 k4 k5 (by kernel_rfl) (by kernel_rfl) (by kernel_rfl) (by kernel_rfl) (by kernel_rfl) (by kernel_rfl) (by kernel_rfl) (by kernel_rfl) (by kernel_rfl) (by kernel_rfl) (by kernel_rfl) (by kernel_rfl) (by kernel_rfl) (by kernel_rfl) (by kernel_rfl) (by kernel_rfl)
theorem over : Rows.fnExactReadBooksRow.holds Tryd.pinned (OpenSpec.ofChange Rows.fnExactReadBooksSpec) :=
  OpenClaim.holds_of_cond 6 Tryd.f6 rfl rfl rfl rfl rfl rfl rfl ⟨rfl, rfl, rfl, rfl, rfl⟩ rfl rfl rfl rfl rfl hfn Tryd.func6 facts hinst hwrap
    (fun os started H enc _ F => by rw [OpenClaim.pre_eq_preRow]; exact lifted os started H enc F)
theorem proved : Rows.FnExactReadBooksSaid := over

theorem plain (f : FuncId) (fn : Func) (hf : Tryd.pinned.checked.prog.funcNamed "loop.example/g01326/laws.FnExactReadBooks" = some f) (hfn : Tryd.pinned.checked.prog.funcs[f]? = some fn) :
    true = Tryd.pinned.checked.prog.looks [] ∧ ∀ (j : Nat) t, fn.params[j]? = some t → Tryd.pinned.checked.prog.wantsStandIn t = false := by
  obtain rfl : f = 6 := Option.some.inj ((show Tryd.prog.funcNamed "loop.example/g01326/laws.FnExactReadBooks" = some 6 by kernel_rfl).symm.trans hf) |>.symm
  obtain rfl : fn = Tryd.f6 := (Option.some.inj (Tryd.func6.symm.trans hfn)).symm
  refine ⟨by kernel_rfl, fun j t ht => ?_⟩
  rw [Tryd.params6] at ht
  have hm : t ∈ [9] := by simpa using Array.mem_of_getElem? ht
  have hall : ([9].all fun u => !Tryd.prog.wantsStandIn u) = true := by kernel_rfl
  exact (show Tryd.prog.wantsStandIn t = false by simpa using List.all_eq_true.1 hall t hm)
theorem card : Rows.FnExactReadBooksCardSaid :=
  Claim7.holds_tied_plain_at .later [] _ _ _ _ proved (fun _ h => by cases h) (by kernel_rfl) (fun _ h => by cases h) fnExactReadBooks_row_tie rfl ⟨rfl, rfl⟩ (by kernel_rfl) rfl plain (by kernel_rfl)
end Go.Proofs.YtgibcacciedobaaDoor.fnExactReadBooks
namespace Go.Proofs.YtgibcacciedobaaDoor
/-- The card, under a short name, for the claim. -/
theorem fnExactReadBooks_holds : Rows.FnExactReadBooksCardSaid := fnExactReadBooks.card
end Go.Proofs.YtgibcacciedobaaDoor
