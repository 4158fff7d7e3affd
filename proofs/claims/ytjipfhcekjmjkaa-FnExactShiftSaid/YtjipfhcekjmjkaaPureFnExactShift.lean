/- FnExactShift: the program's Shift and the reference's agree, for all two ints. -/
import Derived.Test.YtjipfhcekjmjkaaQFnExactShift
import Derived.Test.YtjipfhcekjmjkaaPlain
namespace Go.Proofs.Ytjipfhcekjmjkaa.Pure
open Go.RowKit Go.Proofs.Ytjipfhcekjmjkaa.PFnExactShift Go.Proofs.Ytjipfhcekjmjkaa.Plain Go.Proofs.YtjipfhcekjmjkaaW.PrintWords Go.Proofs.YtjipfhcekjmjkaaW.PrintLast

theorem FnExactShift : laws_FnExactShift.Pure := by
  intro a b _ _
  unfold laws_FnExactShift.f spec_Shift.f impl_Shift.f impl_Still.f laws_eqMat.f
  simp
end Go.Proofs.Ytjipfhcekjmjkaa.Pure
