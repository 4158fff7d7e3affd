/- FnExactJoinBox: the program's JoinBox and the reference's agree, for all two boxes. -/
import Derived.Test.YtjipfhcekjmjkaaPFnExactJoinBoxx0
import Derived.Test.YtjipfhcekjmjkaaPFnExactJoinBoxx1
import Derived.Test.YtjipfhcekjmjkaaPFnExactJoinBoxx2
import Derived.Test.YtjipfhcekjmjkaaPFnExactJoinBoxx3
import Derived.Test.YtjipfhcekjmjkaaPlain
namespace Go.Proofs.Ytjipfhcekjmjkaa.Pure
open Go.RowKit Go.Proofs.Ytjipfhcekjmjkaa.PFnExactJoinBox Go.Proofs.Ytjipfhcekjmjkaa.Plain Go.Proofs.YtjipfhcekjmjkaaW.PrintWords Go.Proofs.YtjipfhcekjmjkaaW.PrintLast

theorem spec_most (a b : Int) : spec_l05Most.f a b = some (mx a b) := by
  unfold spec_l05Most.f mx
  by_cases h : a < b
  · rw [if_neg (by omega), if_pos h]
  · rw [if_neg h]
    by_cases e : b < a
    · rw [if_pos (by omega)]
    · rw [if_neg (by omega), show a = b by omega]
theorem spec_least (a b : Int) : spec_l05Least.f a b = some (mn a b) := by
  unfold spec_l05Least.f mn
  by_cases h : b < a
  · rw [if_neg (by omega), if_pos h]
  · rw [if_neg h]
    by_cases e : a < b
    · rw [if_pos (by omega)]
    · rw [if_neg (by omega), show a = b by omega]

theorem spec_empty (a b c d : Int) : spec_Empty.f a b c d = some (emB a b c d) := by
  unfold spec_Empty.f
  exact emB_text a b c d

theorem impl_empty (a b c d : Int) : impl_Empty.f a b c d = some (emB a b c d) := by
  unfold impl_Empty.f
  exact emB_text a b c d

theorem eqBox_self (a b c d : Int) : laws_eqBox.f a b c d a b c d = some true := by
  unfold laws_eqBox.f
  simp

def joinB (a b : Int × Int × Int × Int) : Int × Int × Int × Int :=
  if emB a.1 a.2.1 a.2.2.1 a.2.2.2 && emB b.1 b.2.1 b.2.2.1 b.2.2.2 then (0, 0, 0, 0) else if emB a.1 a.2.1 a.2.2.1 a.2.2.2 then b else if emB b.1 b.2.1 b.2.2.1 b.2.2.2 then a
  else (mn a.1 b.1, mn a.2.1 b.2.1, mx a.2.2.1 b.2.2.1, mx a.2.2.2 b.2.2.2)

theorem spec_join (k : Nat) (a0 a1 a2 a3 b0 b1 b2 b3 : Int) : spec_JoinBox.f (k + 1) a0 a1 a2 a3 b0 b1 b2 b3 = some (joinB (a0, a1, a2, a3) (b0, b1, b2, b3)) := by
  unfold spec_JoinBox.f joinB
  simp only [spec_empty, Option.bind_some, spec_JoinBox.j0, spec_most, spec_least]
  cases emB a0 a1 a2 a3 <;> cases emB b0 b1 b2 b3 <;> simp

theorem impl_join (k : Nat) (a0 a1 a2 a3 b0 b1 b2 b3 : Int) : impl_JoinBox.f (k + 1) a0 a1 a2 a3 b0 b1 b2 b3 = some (joinB (a0, a1, a2, a3) (b0, b1, b2, b3)) := by
  unfold impl_JoinBox.f joinB
  simp only [impl_empty, Option.bind_some, impl_JoinBox.j0]
  cases emB a0 a1 a2 a3 <;> cases emB b0 b1 b2 b3 <;> simp

theorem FnExactJoinBox (a0 a1 a2 a3 b0 b1 b2 b3 : Int) (_ : (Lit.int .i64 a0).wf = true) (_ : (Lit.int .i64 a1).wf = true) (_ : (Lit.int .i64 a2).wf = true) (_ : (Lit.int .i64 a3).wf = true)
    (_ : (Lit.int .i64 b0).wf = true) (_ : (Lit.int .i64 b1).wf = true) (_ : (Lit.int .i64 b2).wf = true) (_ : (Lit.int .i64 b3).wf = true) : ∃ k, laws_FnExactJoinBox.f k a0 a1 a2 a3 b0 b1 b2 b3 = some true := by
  refine ⟨1, ?_⟩
  unfold laws_FnExactJoinBox.f laws_toBox.f
  simp only [Option.bind_some, spec_join, impl_join, eqBox_self, if_true]
end Go.Proofs.Ytjipfhcekjmjkaa.Pure
