/- The card of the statement FnBooks: the law's function returns true of every input, the listed variables tied to the program's text. No condition. -/
import Derived.Test.YtkoaangakmpggaaGreatDoorB7
import Derived.Test.YtkoaangakmpggaaGreatDoorCards
import Derived.Test.YtkoaangakmpggaaGreatDoorTie
import Derived.WalkKit
import Derived.ProofKit
import Derived.OpenShut
import Derived.ShutString
import Derived.ChangeOld
import Derived.Below
import Derived.SizedLaws
import Derived.Carry
import Derived.Deep.DeepHandedRow
import Derived.Deep.DeepWitnessRowRef
import Derived.SevenTiedAt
namespace Go.Proofs.YtkoaangakmpggaaGreatDoor.fnBooks
open Go.ChangeShapes Go.WideShapes Go.ChangeAt Go.RowKit
open Go.ChangeMaps (open_string shut_string)
set_option linter.unusedVariables false
set_option linter.unusedSimpArgs false
theorem own : ownKnob Tryz.prog.godebug = none := by kernel_rfl
theorem laid_met (os : Os) : laidMetH Tryz.prog Rows.fnBooksRow.laid ((startWorld7 os).forCall (fun _ _ => 0) ⟨#[], #[.slice none 0 0, .slice none 0 0], []⟩).memory := start_met7 os _
set_option maxRecDepth 100000
theorem start_row (os : Os) {H : Type} (enc : TypeId × Value → H) : (OpenSpec.ofChange Rows.fnBooksSpec).preRow enc Tryz.prog Tryz.f3 Rows.fnBooksRow.domain false Rows.fnBooksRow.laid ((startWorld7 os).forCall (fun _ _ => 0) ⟨#[], #[.slice none 0 0, .slice none 0 0], []⟩).memory #[.slice none 0 0, .slice none 0 0] :=
  OpenSpec.preRow_of_B rfl 8 (by kernel_rfl) (by kernel_rfl) (laid_met os)
theorem lifted (os : Os) (started : os.Started) (H : Type) (enc : TypeId × Value → H) (F : Stop.Interp) :
    ReturnsInHanded {} Tryz.checked os 3 .any ((OpenSpec.ofChange Rows.fnBooksSpec).preRow enc Tryz.prog Tryz.f3 Rows.fnBooksRow.domain false Rows.fnBooksRow.laid) (((OpenSpec.ofChange Rows.fnBooksSpec).at F).post enc Tryz.prog Tryz.f3 false true false false) := by
  refine returnsInHanded_of_row (C := Tryz.checked) (s := OpenSpec.ofChange Rows.fnBooksSpec) own started (by kernel_rfl) Tryz.func3 (witness_row_atRef (enc := enc) (C := Tryz.checked) false (startWorld7 os) #[.slice none 0 0, .slice none 0 0] rfl (by kernel_rfl) (by kernel_rfl) (by kernel_rfl) (start_row os enc)) ?_
  intro W base args ds gs before hval0 hW _ _ _ hLd hsh _
  have hval : ∀ (j : Nat) t v, Tryz.f3.params[j]? = some t → args[j]? = some v → Value.okWide Tryz.prog W .any base t v := hval0
  have ht := start_txt hLd hsh
  have hW' := hW
  obtain ⟨p, q, hA0, hV, rfl, hfz, hnd⟩ := hW
  have hA : DataW.TrodAll enc Tryz.prog W 0 (fun _ => true) true Tryz.f3.params.toList args.toList ds p := hA0
  rw [Tryz.params3] at hA hval
  obtain ⟨v0, vs0, d0, ds0, p0, q0, hargs0, rfl, rfl, h0, r0⟩ := trodAll_cons hA
  obtain ⟨v1, vs1, d1, ds1, p1, q1, rfl, rfl, rfl, h1, r1⟩ := trodAll_cons r0
  obtain ⟨rfl, rfl, rfl⟩ := trodAll_nil r1
  obtain rfl : args = #[v0, v1] := by cases args; simp_all
  obtain ⟨rfl, rfl⟩ := trodVars_none hV
  have lt0 : ∀ x ∈ p0, x.block < W.heap.size := fun x hx => by simpa using hW'.lt x (by simp [hx])
  have lt1 : ∀ x ∈ p1, x.block < W.heap.size := fun x hx => by simpa using hW'.lt x (by simp [hx])
  have fin : ∀ (e : Ending) (W' : World), Ret W (.bool true) e W' → ∃ v, e = .returned v ∧ Rows.fnBooksSpec.post enc Tryz.prog Tryz.f3 false true false false W #[v0, v1] v W' := by
    rintro e W' ⟨rfl, hb⟩
    exact ⟨_, rfl, _, _, _, [], (p0 ++ (p1 ++ [])), [], hW', trodAll_mk1 (shut_bool Tryz.underlying4 _), (trodAll_cons_mk (Below.trod laid (by kernel_rfl) (of_decide_eq_true (by kernel_rfl)) h0 hb lt0) (trodAll_cons_mk (Below.trod laid (by kernel_rfl) (of_decide_eq_true (by kernel_rfl)) h1 hb lt1) trodAll_mk0)), rfl, hb.frame _, fun h => by cases h⟩
  obtain ⟨A0, c0, L0, rfl, lc0, C0, ok0⟩ := open_u8s' (hval 0 22 v0 rfl rfl) h0
  obtain ⟨A1, c1, L1, rfl, lc1, C1, ok1⟩ := open_u8s' (hval 1 22 v1 rfl rfl) h1
  exact (FnBooks_c A0 c0 L0 lc0 C0 ok0 A1 c1 L1 lc1 C1 ok1 ht).mono fin
theorem k1 : (Rows.fnBooksRow.wf (OpenSpec.ofChange Rows.fnBooksSpec) && laidOutB Tryz.prog && mapsRowed Tryz.prog && Tryz.f3.params.all (Tryz.prog.readableRec ·) && namedTie Tryz.prog Rows.fnBooksRow.named Rows.fnBooksSpec.vars && (Rows.fnBooksRow.stops == []) && (Tryz.prog.stops == []) && (Rows.fnBooksRow.knobs == []) && (Tryz.prog.stopKnobs == [])) = true := by kernel_rfl
theorem k2 : (Rows.fnBooksRow.inPlace == Tryz.prog.inPlace 3) = true := by kernel_rfl
theorem k3 : (Rows.fnBooksRow.unfollowed == Tryz.prog.unfollowed 3) = true := by kernel_rfl
theorem k4 : (Rows.fnBooksRow.recurses == Tryz.prog.recurses 3) = true := by kernel_rfl
theorem k5 : (Rows.fnBooksRow.named == Tryz.prog.varsNamed 3) = true := by kernel_rfl
theorem hfn : Tryz.prog.funcNamed Rows.fnBooksRow.func = some 3 := by kernel_rfl
theorem hinst : Tryz.f3.isInstance Tryz.prog Rows.fnBooksRow.origin Rows.fnBooksRow.targs := of_decide_eq_true (by kernel_rfl)
theorem hwrap : Tryz.f3.isWrapper Tryz.prog Rows.fnBooksRow.wrapper Rows.fnBooksRow.mainSum := by
  unfold Func.isWrapper
  first | (rw [if_pos (by decide +kernel)]; kernel_rfl) | (rw [if_neg (by decide +kernel)]; exact ⟨rfl, rfl⟩)
theorem facts : joinedFacts Tryz.prog 3 Tryz.f3 Rows.fnBooksSpec Rows.fnBooksRow = true :=
  facts_of Tryz.prog 3 Tryz.f3 Rows.fnBooksSpec Rows.fnBooksRow mayEnter_ liftsFinal_ make_ rfl rfl k1 k2 k3 k4 k5 (by kernel_rfl) (by kernel_rfl) (by kernel_rfl) (by kernel_rfl) (by kernel_rfl) (by kernel_rfl) (by kernel_rfl) (by kernel_rfl) (by kernel_rfl) (by kernel_rfl) (by kernel_rfl) (by kernel_rfl) (by kernel_rfl) (by kernel_rfl) (by kernel_rfl) (by kernel_rfl)
theorem over : Rows.fnBooksRow.holds Tryz.pinned (OpenSpec.ofChange Rows.fnBooksSpec) :=
  OpenClaim.holds_of_cond 3 Tryz.f3 rfl rfl rfl rfl rfl rfl rfl ⟨rfl, rfl, rfl, rfl, rfl⟩ rfl rfl rfl rfl rfl hfn Tryz.func3 facts hinst hwrap
    (fun os started H enc _ F => by rw [OpenClaim.pre_eq_preRow]; exact lifted os started H enc F)
theorem proved : Rows.FnBooksSaid := over

theorem plain (f : FuncId) (fn : Func) (hf : Tryz.pinned.checked.prog.funcNamed "loop.example/g01326/laws.FnBooks" = some f) (hfn : Tryz.pinned.checked.prog.funcs[f]? = some fn) :
    true = Tryz.pinned.checked.prog.looks [] ∧ ∀ (j : Nat) t, fn.params[j]? = some t → Tryz.pinned.checked.prog.wantsStandIn t = false := by
  obtain rfl : f = 3 := Option.some.inj ((show Tryz.prog.funcNamed "loop.example/g01326/laws.FnBooks" = some 3 by kernel_rfl).symm.trans hf) |>.symm
  obtain rfl : fn = Tryz.f3 := (Option.some.inj (Tryz.func3.symm.trans hfn)).symm
  refine ⟨by kernel_rfl, fun j t ht => ?_⟩
  rw [Tryz.params3] at ht
  have hm : t ∈ [22, 22] := by simpa using Array.mem_of_getElem? ht
  have hall : ([22, 22].all fun u => !Tryz.prog.wantsStandIn u) = true := by kernel_rfl
  exact (show Tryz.prog.wantsStandIn t = false by simpa using List.all_eq_true.1 hall t hm)
theorem card : Rows.FnBooksCardSaid :=
  Claim7.holds_tied_plain_at .later [] _ _ _ _ proved (fun _ h => by cases h) (by kernel_rfl) (fun _ h => by cases h) fnBooks_row_tie rfl ⟨rfl, rfl⟩ (by kernel_rfl) rfl plain (by kernel_rfl)
end Go.Proofs.YtkoaangakmpggaaGreatDoor.fnBooks
namespace Go.Proofs.YtkoaangakmpggaaGreatDoor
/-- The card, under a short name, for the claim. -/
theorem fnBooks_holds : Rows.FnBooksCardSaid := fnBooks.card
end Go.Proofs.YtkoaangakmpggaaGreatDoor
