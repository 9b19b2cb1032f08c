/- The pure statement of FnExactConstants: it is true. No condition. -/
import Derived.Test.YtbcpjnbcaafakaaPFnExactConstantsx1
import Derived.Test.YtbcpjnbcaafakaaBase
namespace Go.Proofs.Ytbcpjnbcaafakaa.Pure
open Go.RowKit Go.Proofs.Ytbcpjnbcaafakaa.PFnExactConstants Go.Proofs.YtbcpjnbcaafakaaW.PrintWords Go.Proofs.Ytbcpjnbcaafakaa.Base
theorem FnExactConstants : laws_FnExactConstants.Pure := rfl
end Go.Proofs.Ytbcpjnbcaafakaa.Pure
