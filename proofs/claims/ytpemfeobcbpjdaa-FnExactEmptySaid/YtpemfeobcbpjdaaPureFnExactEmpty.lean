/- FnExactEmpty: the program's Empty and the reference's agree, for every box. -/
import Derived.Test.YtpemfeobcbpjdaaPFnExactEmptyx1
namespace Go.Proofs.Ytpemfeobcbpjdaa.Pure
open Go.RowKit Go.Proofs.Ytpemfeobcbpjdaa.PFnExactEmpty Go.Proofs.YtpemfeobcbpjdaaW.PrintWords Go.Proofs.YtpemfeobcbpjdaaW.PrintLast

theorem empty_some (a b c d : Int) : ∃ r, spec_Empty.f a b c d = some r := by
  unfold spec_Empty.f
  split <;> exact ⟨_, rfl⟩

theorem FnExactEmpty (a b c d : Int) (_ : (Lit.int .i64 a).wf = true) (_ : (Lit.int .i64 b).wf = true) (_ : (Lit.int .i64 c).wf = true) (_ : (Lit.int .i64 d).wf = true) : laws_FnExactEmpty.f a b c d = some true := by
  obtain ⟨r, h⟩ := empty_some a b c d
  have e : impl_Empty.f a b c d = spec_Empty.f a b c d := rfl
  unfold laws_FnExactEmpty.f laws_toBox.f
  simp only [Option.bind_some]
  rw [e, h]
  simp
end Go.Proofs.Ytpemfeobcbpjdaa.Pure
