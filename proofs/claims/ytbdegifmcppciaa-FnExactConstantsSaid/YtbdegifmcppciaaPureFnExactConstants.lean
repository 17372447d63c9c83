/- The program's constants are those of the reference: the law returns true. No condition. -/
import Derived.Test.YtbdegifmcppciaaPFnExactConstantsx1
namespace Go.Proofs.Ytbdegifmcppciaa.Pure
open Go.RowKit Go.Proofs.Ytbdegifmcppciaa.PFnExactConstants Go.Proofs.YtbdegifmcppciaaW.PrintWords Go.Proofs.YtbdegifmcppciaaW.PrintLast

theorem FnExactConstants : laws_FnExactConstants.Pure := rfl

end Go.Proofs.Ytbdegifmcppciaa.Pure
