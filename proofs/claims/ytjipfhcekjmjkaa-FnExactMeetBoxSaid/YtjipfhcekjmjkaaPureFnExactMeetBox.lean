/- FnExactMeetBox: the program's MeetBox and the reference's agree, for all two boxes. -/
import Derived.Test.YtjipfhcekjmjkaaPFnExactMeetBoxx0
import Derived.Test.YtjipfhcekjmjkaaPFnExactMeetBoxx1
import Derived.Test.YtjipfhcekjmjkaaPFnExactMeetBoxx2
import Derived.Test.YtjipfhcekjmjkaaPFnExactMeetBoxx3
import Derived.Test.YtjipfhcekjmjkaaPFnExactMeetBoxx4
import Derived.Test.YtjipfhcekjmjkaaPlain
namespace Go.Proofs.Ytjipfhcekjmjkaa.Pure
open Go.RowKit Go.Proofs.Ytjipfhcekjmjkaa.PFnExactMeetBox Go.Proofs.Ytjipfhcekjmjkaa.Plain Go.Proofs.YtjipfhcekjmjkaaW.PrintWords Go.Proofs.YtjipfhcekjmjkaaW.PrintLast

theorem spec_most (a b : Int) : spec_l05Most.f a b = some (mx a b) := by
  unfold spec_l05Most.f mx
  by_cases h : a < b
  · rw [if_neg (by omega), if_pos h]
  · rw [if_neg h]
    by_cases e : b < a
    · rw [if_pos (by omega)]
    · rw [if_neg (by omega), show a = b by omega]
theorem spec_least (a b : Int) : spec_l05Least.f a b = some (mn a b) := by
  unfold spec_l05Least.f mn
  by_cases h : b < a
  · rw [if_neg (by omega), if_pos h]
  · rw [if_neg h]
    by_cases e : a < b
    · rw [if_pos (by omega)]
    · rw [if_neg (by omega), show a = b by omega]

theorem spec_empty (a b c d : Int) : spec_Empty.f a b c d = some (emB a b c d) := by
  unfold spec_Empty.f
  exact emB_text a b c d

theorem impl_empty (a b c d : Int) : impl_Empty.f a b c d = some (emB a b c d) := by
  unfold impl_Empty.f
  exact emB_text a b c d

theorem eqBox_self (a b c d : Int) : laws_eqBox.f a b c d a b c d = some true := by
  unfold laws_eqBox.f
  simp

theorem FnExactMeetBox (a0 a1 a2 a3 b0 b1 b2 b3 : Int) (_ : (Lit.int .i64 a0).wf = true) (_ : (Lit.int .i64 a1).wf = true) (_ : (Lit.int .i64 a2).wf = true) (_ : (Lit.int .i64 a3).wf = true)
    (_ : (Lit.int .i64 b0).wf = true) (_ : (Lit.int .i64 b1).wf = true) (_ : (Lit.int .i64 b2).wf = true) (_ : (Lit.int .i64 b3).wf = true) : laws_FnExactMeetBox.f a0 a1 a2 a3 b0 b1 b2 b3 = some true := by
  unfold laws_FnExactMeetBox.f laws_toBox.f spec_MeetBox.f impl_MeetBox.f
  simp only [Option.bind_some, spec_most, spec_least, spec_empty, impl_empty]
  cases emB (mx a0 b0) (mx a1 b1) (mn a2 b2) (mn a3 b3) <;> simp [eqBox_self]
end Go.Proofs.Ytjipfhcekjmjkaa.Pure
