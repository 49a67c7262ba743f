/- All constants of the program are what the reference says: the law's function returns true. No condition. -/
import Derived.Test.YtgdhopcbiekhhaaPFnExactConstantsx1
namespace Go.Proofs.Ytgdhopcbiekhhaa.Pure
open Go.RowKit Go.Proofs.Ytgdhopcbiekhhaa.PFnExactConstants Go.Proofs.YtgdhopcbiekhhaaW.PrintWords Go.Proofs.YtgdhopcbiekhhaaW.PrintLast
theorem FnExactConstants : laws_FnExactConstants.Pure := rfl
end Go.Proofs.Ytgdhopcbiekhhaa.Pure
