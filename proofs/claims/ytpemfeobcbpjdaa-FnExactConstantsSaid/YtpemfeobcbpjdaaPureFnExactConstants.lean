/- FnExactConstants: the program's constants are the reference's; no condition. -/
import Derived.Test.YtpemfeobcbpjdaaPFnExactConstantsx1
namespace Go.Proofs.Ytpemfeobcbpjdaa.Pure
open Go.RowKit Go.Proofs.Ytpemfeobcbpjdaa.PFnExactConstants Go.Proofs.YtpemfeobcbpjdaaW.PrintWords Go.Proofs.YtpemfeobcbpjdaaW.PrintLast

theorem FnExactConstants : laws_FnExactConstants.Pure := rfl

end Go.Proofs.Ytpemfeobcbpjdaa.Pure
