/- The row of the statement FnExactCompareBooks: the law's function returns true of every input. No condition. -/
import Derived.Test.YtgdhopcbiekhhaaSeat
import Derived.Test.YtgdhopcbiekhhaaWkCompareBooks
import Derived.Test.YtgdhopcbiekhhaaOpen
import Derived.WalkKit
import Derived.ProofKit
import Derived.OpenShut
import Derived.ShutString
import Derived.ChangeOld
import Derived.Below
import Derived.SizedLaws
import Derived.Carry
namespace Go.Proofs.Ytgdhopcbiekhhaa.fnExactCompareBooks
open Go.ChangeShapes Go.WideShapes Go.ChangeAt Go.RowKit
open Go.ChangeMaps (open_string shut_string)
set_option linter.unusedVariables false
set_option linter.unusedSimpArgs false
theorem own : ownKnob Try.prog.godebug = none := by kernel_rfl
set_option maxRecDepth 100000 in
theorem lifted (os : Os) (started : os.Started) (H : Type) (enc : TypeId × Value → H) :
    ReturnsInHanded {} Try.checked os 9 .any (Rows.fnExactCompareBooksSpec.pre6 enc Try.prog Try.f9 Rows.fnExactCompareBooksRow.domain false) (Rows.fnExactCompareBooksSpec.post enc Try.prog Try.f9 false true false false) := by
  refine returnsInHanded_of_change_sized (C := Try.checked) own started (by kernel_rfl) Try.func9
    (ChangeSpec.witness6 (enc := enc) (C := Try.checked) false ⟨#[], #[.agg #[.int .i16 0, .int .u8 0, .int .u8 0, .int .u8 0, .int .i16 0, .int .i16 0, .int .i16 0, .int .i16 0], .agg #[.int .i16 0, .int .u8 0, .int .u8 0, .int .u8 0, .int .i16 0, .int .i16 0, .int .i16 0, .int .i16 0]], []⟩ 8 (by kernel_rfl) (by kernel_rfl) (by kernel_rfl) (by kernel_rfl)) ?_
  intro W base args ds gs before hval0 hW hcnd hsz0 _
  have hval : ∀ (j : Nat) t v, Try.f9.params[j]? = some t → args[j]? = some v → Value.okWide Try.prog W .any base t v := hval0
  have hW' := hW
  obtain ⟨p, q, hA0, hV, rfl, hfz, hnd⟩ := hW
  have hA : DataW.TrodAll enc Try.prog W 0 (fun _ => true) true Try.f9.params.toList args.toList ds p := hA0
  rw [Try.params9] at hA hval
  obtain ⟨v0, vs0, d0, ds0, p0, q0, hargs0, rfl, rfl, h0, r0⟩ := trodAll_cons hA
  obtain ⟨v1, vs1, d1, ds1, p1, q1, rfl, rfl, rfl, h1, r1⟩ := trodAll_cons r0
  obtain ⟨rfl, rfl, rfl⟩ := trodAll_nil r1
  obtain rfl : args = #[v0, v1] := by cases args; simp_all
  obtain ⟨rfl, rfl⟩ := trodVars_none hV
  have lt0 : ∀ x ∈ p0, x.block < W.heap.size := fun x hx => by simpa using hW'.lt x (by simp [hx])
  have lt1 : ∀ x ∈ p1, x.block < W.heap.size := fun x hx => by simpa using hW'.lt x (by simp [hx])
  have fin : ∀ (e : Ending) (W' : World), Ret W (.bool true) e W' → ∃ v, e = .returned v ∧ Rows.fnExactCompareBooksSpec.post enc Try.prog Try.f9 false true false false W #[v0, v1] v W' := by
    rintro e W' ⟨rfl, hb⟩
    exact ⟨_, rfl, _, _, _, [], (p0 ++ (p1 ++ [])), [], hW', trodAll_mk1 (shut_bool Try.underlying4 _), (trodAll_cons_mk (Below.trod laid (by kernel_rfl) (of_decide_eq_true (by kernel_rfl)) h0 hb lt0) (trodAll_cons_mk (Below.trod laid (by kernel_rfl) (of_decide_eq_true (by kernel_rfl)) h1 hb lt1) trodAll_mk0)), rfl, hb.frame _, fun h => by cases h⟩
  obtain ⟨b0, rfl, ok0⟩ := open_book (hval 0 32 v0 rfl rfl) h0
  obtain ⟨b1, rfl, ok1⟩ := open_book (hval 1 32 v1 rfl rfl) h1
  exact (FnExactCompareBooks_c b0 ok0 b1 ok1 W).mono fin
theorem k1 : (Rows.fnExactCompareBooksRow.wf (OpenSpec.ofChange Rows.fnExactCompareBooksSpec) && laidOutB Try.prog && mapsRowed Try.prog && Try.f9.params.all (Try.prog.readableRec ·) && namedTie Try.prog Rows.fnExactCompareBooksRow.named Rows.fnExactCompareBooksSpec.vars && (Rows.fnExactCompareBooksRow.stops == []) && (Try.prog.stops == []) && (Rows.fnExactCompareBooksRow.knobs == []) && (Try.prog.stopKnobs == [])) = true := by kernel_rfl
theorem k2 : (Rows.fnExactCompareBooksRow.inPlace == Try.prog.inPlace 9) = true := by kernel_rfl
theorem k3 : (Rows.fnExactCompareBooksRow.unfollowed == Try.prog.unfollowed 9) = true := by kernel_rfl
theorem k4 : (Rows.fnExactCompareBooksRow.recurses == Try.prog.recurses 9) = true := by kernel_rfl
theorem k5 : (Rows.fnExactCompareBooksRow.named == Try.prog.varsNamed 9) = true := by kernel_rfl
theorem hfn : Try.prog.funcNamed Rows.fnExactCompareBooksRow.func = some 9 := by kernel_rfl
theorem hinst : Try.f9.isInstance Try.prog Rows.fnExactCompareBooksRow.origin Rows.fnExactCompareBooksRow.targs := of_decide_eq_true (by kernel_rfl)
theorem hwrap : Try.f9.isWrapper Try.prog Rows.fnExactCompareBooksRow.wrapper Rows.fnExactCompareBooksRow.mainSum := by
  unfold Func.isWrapper
  first | (rw [if_pos (by decide +kernel)]; kernel_rfl) | (rw [if_neg (by decide +kernel)]; exact ⟨rfl, rfl⟩)
theorem facts : joinedFacts Try.prog 9 Try.f9 Rows.fnExactCompareBooksSpec Rows.fnExactCompareBooksRow = true :=
  facts_of Try.prog 9 Try.f9 Rows.fnExactCompareBooksSpec Rows.fnExactCompareBooksRow mayEnter_ liftsFinal_ make_ rfl rfl k1 k2 k3 k4 k5 (by kernel_rfl) (by kernel_rfl) (by kernel_rfl) (by kernel_rfl) (by kernel_rfl) (by kernel_rfl) (by kernel_rfl) (by kernel_rfl) (by kernel_rfl) (by kernel_rfl) (by kernel_rfl) (by kernel_rfl) (by kernel_rfl) (by kernel_rfl) (by kernel_rfl) (by kernel_rfl)
theorem over : Rows.fnExactCompareBooksRow.holds Try.pinned (OpenSpec.ofChange Rows.fnExactCompareBooksSpec) :=
  OpenClaim.holds_of_wide 9 Try.f9 rfl rfl rfl rfl rfl rfl rfl ⟨rfl, rfl, rfl, rfl, rfl⟩ rfl rfl rfl rfl rfl hfn Try.func9 facts hinst hwrap
    (fun os started H enc _ => lifted os started H enc)
theorem proved : Rows.FnExactCompareBooksSaid := over

end Go.Proofs.Ytgdhopcbiekhhaa.fnExactCompareBooks
namespace Go.Proofs.Ytgdhopcbiekhhaa
/-- The row, under a short name, for the claim. -/
theorem fnExactCompareBooks_holds : Rows.FnExactCompareBooksSaid := fnExactCompareBooks.proved
end Go.Proofs.Ytgdhopcbiekhhaa
