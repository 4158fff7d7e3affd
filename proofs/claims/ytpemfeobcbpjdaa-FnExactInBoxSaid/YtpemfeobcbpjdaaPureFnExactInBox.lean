/- FnExactInBox: the program's InBox and the reference's agree, for every box and every point. -/
import Derived.Test.YtpemfeobcbpjdaaPFnExactInBoxx1
namespace Go.Proofs.Ytpemfeobcbpjdaa.Pure
open Go.RowKit Go.Proofs.Ytpemfeobcbpjdaa.PFnExactInBox Go.Proofs.YtpemfeobcbpjdaaW.PrintWords Go.Proofs.YtpemfeobcbpjdaaW.PrintLast

theorem inBox_some (a b c d x y : Int) : ∃ r, spec_InBox.f a b c d x y = some r ∧ impl_InBox.f a b c d x y = some r := by
  refine ⟨decide (a ≤ x ∧ x < c ∧ b ≤ y ∧ y < d), ?_, ?_⟩
  · unfold spec_InBox.f
    by_cases h1 : a ≤ x <;> by_cases h2 : x < c <;> by_cases h3 : b ≤ y <;> simp [h1, h2, h3]
  · unfold impl_InBox.f
    by_cases h1 : a ≤ x <;> by_cases h2 : x < c <;> by_cases h3 : b ≤ y <;> simp [h1, h2, h3]

theorem FnExactInBox (a b c d x y : Int) (_ : (Lit.int .i64 a).wf = true) (_ : (Lit.int .i64 b).wf = true) (_ : (Lit.int .i64 c).wf = true) (_ : (Lit.int .i64 d).wf = true) (_ : (Lit.int .i64 x).wf = true) (_ : (Lit.int .i64 y).wf = true) :
    laws_FnExactInBox.f a b c d x y = some true := by
  obtain ⟨r, h, g⟩ := inBox_some a b c d x y
  unfold laws_FnExactInBox.f laws_toBox.f laws_toPoint.f
  simp only [Option.bind_some, h, g]
  simp
end Go.Proofs.Ytpemfeobcbpjdaa.Pure
