/- FnExactPointOk: the program's PointOk and the reference's agree, for every point. -/
import Derived.Test.YtpemfeobcbpjdaaPFnExactPointOkx1
namespace Go.Proofs.Ytpemfeobcbpjdaa.Pure
open Go.RowKit Go.Proofs.Ytpemfeobcbpjdaa.PFnExactPointOk Go.Proofs.YtpemfeobcbpjdaaW.PrintWords Go.Proofs.YtpemfeobcbpjdaaW.PrintLast

theorem in_some (a b c : Int) : ∃ r, spec_l01In.f a b c = some r := by
  unfold spec_l01In.f
  split <;> exact ⟨_, rfl⟩

theorem FnExactPointOk (a b : Int) (_ : (Lit.int .i64 a).wf = true) (_ : (Lit.int .i64 b).wf = true) : laws_FnExactPointOk.f a b = some true := by
  obtain ⟨r, h⟩ := in_some a (-8388608) 8388608
  obtain ⟨s, g⟩ := in_some b (-8388608) 8388608
  have e : ∀ x, impl_inRange.f x (-8388608) 8388608 = spec_l01In.f x (-8388608) 8388608 := fun _ => rfl
  unfold laws_FnExactPointOk.f laws_toPoint.f spec_PointOk.f impl_PointOk.f impl_isFar.f
  simp only [Option.bind_some, e, h, g]
  cases r <;> cases s <;> rfl
end Go.Proofs.Ytpemfeobcbpjdaa.Pure
