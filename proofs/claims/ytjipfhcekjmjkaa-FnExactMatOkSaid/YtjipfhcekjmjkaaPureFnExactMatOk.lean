/- FnExactMatOk: the program's MatOk and the reference's agree, for every mat. -/
import Derived.Test.YtjipfhcekjmjkaaQFnExactMatOkx0
import Derived.Test.YtjipfhcekjmjkaaQFnExactMatOkx1
import Derived.Test.YtjipfhcekjmjkaaPlain
namespace Go.Proofs.Ytjipfhcekjmjkaa.Pure
open Go.RowKit Go.Proofs.Ytjipfhcekjmjkaa.PFnExactMatOk Go.Proofs.Ytjipfhcekjmjkaa.Plain Go.Proofs.YtjipfhcekjmjkaaW.PrintWords Go.Proofs.YtjipfhcekjmjkaaW.PrintLast

theorem in_same (a b c : Int) : ∃ r, spec_l01In.f a b c = some r ∧ impl_inRange.f a b c = some r := by
  have e : impl_inRange.f a b c = spec_l01In.f a b c := rfl
  obtain ⟨r, h⟩ := impl_inRange.total a b c
  exact ⟨r, e ▸ h, h⟩
theorem far_same (a : Int) : ∃ r, spec_l01In.f a (-8388608) 8388608 = some r ∧ impl_isFar.f a = some r := by
  obtain ⟨r, h, g⟩ := in_same a (-8388608) 8388608
  exact ⟨r, h, by unfold impl_isFar.f; rw [g]; rfl⟩
theorem FnExactMatOk (a b c d e f : Int) (_ : (Lit.int .i64 a).wf = true) (_ : (Lit.int .i64 b).wf = true) (_ : (Lit.int .i64 c).wf = true) (_ : (Lit.int .i64 d).wf = true) (_ : (Lit.int .i64 e).wf = true) (_ : (Lit.int .i64 f).wf = true) :
    laws_FnExactMatOk.f a b c d e f = some true := by
  obtain ⟨r1, h1, g1⟩ := in_same a (-1048576) 1048576
  obtain ⟨r2, h2, g2⟩ := in_same b (-1048576) 1048576
  obtain ⟨r3, h3, g3⟩ := in_same c (-1048576) 1048576
  obtain ⟨r4, h4, g4⟩ := in_same d (-1048576) 1048576
  obtain ⟨r5, h5, g5⟩ := far_same e
  obtain ⟨r6, h6, g6⟩ := far_same f
  unfold laws_FnExactMatOk.f laws_toMat.f spec_MatOk.f impl_MatOk.f
  simp only [Option.bind_some, h1, h2, h3, h4, h5, h6, g1, g2, g3, g4, g5, g6]
  cases r1 <;> cases r2 <;> cases r3 <;> cases r4 <;> cases r5 <;> cases r6 <;> rfl
end Go.Proofs.Ytjipfhcekjmjkaa.Pure
