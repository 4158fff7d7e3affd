/- FnExactStill: the program's Still and the reference's agree; no condition. -/
import Derived.Test.YtpemfeobcbpjdaaPFnExactStillx1
namespace Go.Proofs.Ytpemfeobcbpjdaa.Pure
open Go.RowKit Go.Proofs.Ytpemfeobcbpjdaa.PFnExactStill Go.Proofs.YtpemfeobcbpjdaaW.PrintWords Go.Proofs.YtpemfeobcbpjdaaW.PrintLast

theorem FnExactStill : laws_FnExactStill.Pure := by
  show laws_FnExactStill.f = some true
  rfl

end Go.Proofs.Ytpemfeobcbpjdaa.Pure
