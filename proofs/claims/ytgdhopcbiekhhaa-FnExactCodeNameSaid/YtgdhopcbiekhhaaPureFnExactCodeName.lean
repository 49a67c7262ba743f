/- The program's CodeName returns what the reference's returns, for every int64. No condition. -/
import Derived.Test.YtgdhopcbiekhhaaPFnExactCodeNamex1
namespace Go.Proofs.Ytgdhopcbiekhhaa.Pure
open Go.RowKit Go.Proofs.Ytgdhopcbiekhhaa.PFnExactCodeName Go.Proofs.YtgdhopcbiekhhaaW.PrintWords Go.Proofs.YtgdhopcbiekhhaaW.PrintLast
theorem FnExactCodeName : laws_FnExactCodeName.Pure := by
  intro a _
  unfold laws_FnExactCodeName.f spec_CodeName.f impl_CodeName.f spec_l00In.f impl_within_int64.f impl_codeNames.f
  by_cases h1 : (0 : Int) ≤ a
  · by_cases h2 : a ≤ 8
    · have h3 : a < 9 := by omega
      simp [h1, h2, h3]
    · simp [h1, h2]
  · simp [h1]
end Go.Proofs.Ytgdhopcbiekhhaa.Pure
