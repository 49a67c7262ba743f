/- The dump's head, read once as a list of signs: three closed facts of every row of this seat lean on it. No condition. -/
import Derived.Test.YtgibcacciedobaaDoorRows
import Derived.JoinedOf
namespace Go.Proofs.YtgibcacciedobaaDoor
abbrev c (n : Nat) : Char := Char.ofNat n
theorem toList_of (l : List Char) (s : String) (h : s = String.ofList l) : s.toList = l := by rw [h, String.toList_ofList]
def headSigns : List Char := [
c 104, c 97, c 114, c 110, c 101, c 115, c 115, c 32, c 52, c 54, c 97, c 48, c 98, c 99, c 53, c 99, c 99, c 51, c 101, c 55, c 102, c 100, c 56, 
c 52, c 102, c 50, c 52, c 56, c 98, c 54, c 101, c 55, c 97, c 50, c 50, c 102, c 52, c 50, c 54, c 97, c 98, c 99, c 57, c 49, c 54, c 102, c 49, 
c 48, c 49, c 100, c 102, c 102, c 49, c 51, c 102, c 49, c 100, c 100, c 54, c 100, c 57, c 100, c 51, c 50, c 99, c 54, c 53, c 100, c 50, c 49, 
c 49, c 49, c 32, c 99, c 117, c 116, c 32, c 97, c 116, c 32, c 108, c 111, c 111, c 112, c 46, c 101, c 120, c 97, c 109, c 112, c 108, c 101, c 47, 
c 103, c 48, c 49, c 51, c 50, c 54, c 47, c 108, c 97, c 119, c 115, c 46, c 70, c 110, c 69, c 120, c 97, c 99, c 116, c 66, c 111, c 111, c 107, 
c 84, c 101, c 120, c 116, c 32, c 108, c 111, c 111, c 112, c 46, c 101, c 120, c 97, c 109, c 112, c 108, c 101, c 47, c 103, c 48, c 49, c 51, c 50, 
c 54, c 47, c 108, c 97, c 119, c 115, c 46, c 70, c 110, c 69, c 120, c 97, c 99, c 116, c 66, c 111, c 111, c 107, c 115, c 84, c 101, c 120, c 116, 
c 32, c 108, c 111, c 111, c 112, c 46, c 101, c 120, c 97, c 109, c 112, c 108, c 101, c 47, c 103, c 48, c 49, c 51, c 50, c 54, c 47, c 108, c 97, 
c 119, c 115, c 46, c 70, c 110, c 69, c 120, c 97, c 99, c 116, c 82, c 101, c 97, c 100, c 66, c 111, c 111, c 107, c 32, c 108, c 111, c 111, c 112, 
c 46, c 101, c 120, c 97, c 109, c 112, c 108, c 101, c 47, c 103, c 48, c 49, c 51, c 50, c 54, c 47, c 108, c 97, c 119, c 115, c 46, c 70, c 110, 
c 69, c 120, c 97, c 99, c 116, c 82, c 101, c 97, c 100, c 66, c 111, c 111, c 107, c 115, c 32, c 108, c 111, c 111, c 112, c 46, c 101, c 120, c 97, 
c 109, c 112, c 108, c 101, c 47, c 103, c 48, c 49, c 51, c 50, c 54, c 47, c 108, c 97, c 119, c 115, c 46, c 70, c 110, c 69, c 120, c 97, c 99, 
c 116, c 76, c 97, c 121, c 111, c 117, c 116, c 84, c 101, c 120, c 116, c 32, c 108, c 111, c 111, c 112, c 46, c 101, c 120, c 97, c 109, c 112, 
c 108, c 101, c 47, c 103, c 48, c 49, c 51, c 50, c 54, c 47, c 108, c 97, c 119, c 115, c 46, c 70, c 110, c 69, c 120, c 97, c 99, c 116, c 67, 
c 97, c 115, c 101, c 84, c 101, c 120, c 116, c 32, c 108, c 111, c 111, c 112, c 46, c 101, c 120, c 97, c 109, c 112, c 108, c 101, c 47, c 103, 
c 48, c 49, c 51, c 50, c 54, c 47, c 108, c 97, c 119, c 115, c 46, c 70, c 110, c 69, c 120, c 97, c 99, c 116, c 82, c 101, c 97, c 100, c 76, c 97, 
c 121, c 111, c 117, c 116, c 32, c 108, c 111, c 111, c 112, c 46, c 101, c 120, c 97, c 109, c 112, c 108, c 101, c 47, c 103, c 48, c 49, c 51, 
c 50, c 54, c 47, c 108, c 97, c 119, c 115, c 46, c 70, c 110, c 69, c 120, c 97, c 99, c 116, c 82, c 101, c 97, c 100, c 67, c 97, c 115, c 101]
set_option maxRecDepth 100000 in
theorem head_signs : Tryd.prog.initOrder.toList = headSigns := toList_of _ _ (by unfold headSigns; kernel_rfl)
theorem words_ : ∃ rest, behindMainWord (wordsSigns Tryd.prog.initOrder.toList) = "cut".toList :: rest := by
  rw [head_signs]
  exact ⟨(behindMainWord (wordsSigns headSigns)).tail, by kernel_rfl⟩
theorem strip_cut (rest : List (List Char)) : stripLifts liftWords ("cut".toList :: rest) = ([], "cut".toList :: rest) := by kernel_rfl
theorem mayEnter_gen (P : Program) (rest : List (List Char)) (h : behindMainWord (wordsSigns P.initOrder.toList) = "cut".toList :: rest) (h1 : P.laysLater = false) (h2 : P.bearsReflect = false) (h3 : P.doorFits [] = true) : P.mayEnter = true := by
  unfold Program.mayEnter
  rw [h]
  simp only [strip_cut, h1, h2, h3]
  kernel_rfl
theorem headLifts_gen (P : Program) (rest : List (List Char)) (h : behindMainWord (wordsSigns P.initOrder.toList) = "cut".toList :: rest) : P.headLifts = [] := by
  unfold Program.headLifts
  rw [h]
  simp only [strip_cut]
  kernel_rfl
theorem liftsFinal_gen (P : Program) (rest : List (List Char)) (h : behindMainWord (wordsSigns P.initOrder.toList) = "cut".toList :: rest) : P.liftsFinal = false := by
  unfold Program.liftsFinal
  rw [h, headLifts_gen P rest h]
  kernel_rfl
theorem make_gen (P : Program) (rest : List (List Char)) (h : behindMainWord (wordsSigns P.initOrder.toList) = "cut".toList :: rest) : P.make = some .cut := by
  unfold Program.make
  rw [h, headLifts_gen P rest h]
  kernel_rfl
theorem laysLater_ : Tryd.prog.laysLater = false := by kernel_rfl
theorem bearsReflect_ : Tryd.prog.bearsReflect = false := by kernel_rfl
theorem doorFits_ : Tryd.prog.doorFits [] = true := by kernel_rfl
theorem mayEnter_ : Tryd.prog.mayEnter = true := words_.elim fun rest h => mayEnter_gen _ rest h laysLater_ bearsReflect_ doorFits_
theorem liftsFinal_ : Tryd.prog.liftsFinal = false := words_.elim fun rest h => liftsFinal_gen _ rest h
theorem make_ : Tryd.prog.make = some .cut := words_.elim fun rest h => make_gen _ rest h
/-- The closed facts of a row, the three on the head apart. -/
theorem facts_of (P : Program) (f : FuncId) (fn : Func) (s : ChangeSpec) (c : OpenClaim) (m1 : P.mayEnter = true) (m2 : P.liftsFinal = false) (m3 : P.make = some .cut) (hl : c.lifted = false) (hm : c.make = .cut)
    (k1 : (c.wf (OpenSpec.ofChange s) && laidOutB P && mapsRowed P && fn.params.all (P.readableRec ·) && namedTie P c.named s.vars && (c.stops == []) && (P.stops == []) && (c.knobs == []) && (P.stopKnobs == [])) = true)
    (k2 : (c.inPlace == P.inPlace f) = true) (k3 : (c.unfollowed == P.unfollowed f) = true) (k4 : (c.recurses == P.recurses f) = true) (k5 : (c.named == P.varsNamed f) = true)
    (k6 : (c.maps == (fn.params.toList ++ s.plain.varTypes P).any (P.mapsRec ·)) = true) (k7 : (c.ifaces == (fn.params.toList ++ s.plain.varTypes P).any (P.ifacesRec ·)) = true) (k8 : (c.mapsOut == P.mapsAmong fn.resultTypes.toList) = true)
    (k9 : (c.loops == (fn.params.toList ++ s.plain.varTypes P).any (P.loopsFrom ·)) = true) (k10 : (c.wideKeys == (fn.params.toList ++ s.plain.varTypes P ++ fn.resultTypes.toList).any (P.wideKeysFrom ·)) = true)
    (k11 : s.vars.all (P.varReadable ·) = true) (k12 : fn.resultTypes.all (fun t => P.readableRec t && decide (t < P.types.size)) = true) (k13 : (c.ifacesOut == fn.resultTypes.toList.any (P.ifacesRec ·)) = true) (k14 : (c.loopsOut == fn.resultTypes.toList.any (P.loopsFrom ·)) = true)
    (k15 : (c.plainKeys == P.plainKeys) = true) (k16 : c.shortTexts.isNone = true) (k17 : P.stopsHeard = true)
    (k18 : (c.kinds == (if c.domain.isEmpty then [] else fn.params.toList.map fun t => match P.underlying t with | some (.int k) => some k | _ => none)) = true) (k19 : (c.pinned == c.pinnedBy) = true)
    (k20 : (c.veiled == (fn.params.toList ++ s.plain.varTypes P ++ fn.resultTypes.toList).any (P.veiledRec ·)) = true) (k21 : c.veiledFits P fn.params.toList (fn.params.toList ++ s.plain.varTypes P ++ fn.resultTypes.toList) = true) : joinedFacts P f fn s c = true := by
  have e2 : (c.lifted == P.liftsFinal) = true := by rw [m2, hl]; rfl
  have e3 : (P.make == some c.make) = true := by rw [m3, hm]; kernel_rfl
  unfold joinedFacts
  simp only [Bool.and_eq_true] at k1 ⊢
  obtain ⟨⟨⟨⟨⟨⟨⟨⟨a1, a2⟩, a3⟩, a4⟩, a5⟩, a6⟩, a7⟩, a8⟩, a9⟩ := k1
  exact ⟨⟨⟨⟨⟨⟨⟨⟨⟨⟨⟨⟨⟨⟨⟨⟨⟨⟨⟨⟨⟨⟨⟨⟨⟨⟨⟨⟨⟨⟨⟨a1, a2⟩, a3⟩, a4⟩, a5⟩, a6⟩, a7⟩, a8⟩, a9⟩, k2⟩, k3⟩, k4⟩, k5⟩, k6⟩, k7⟩, k8⟩, k9⟩, k10⟩, k11⟩, k12⟩, k13⟩, k14⟩, k15⟩, k16⟩, k17⟩, m1⟩, e2⟩, e3⟩, k18⟩, k19⟩, k20⟩, k21⟩
end Go.Proofs.YtgibcacciedobaaDoor
