/- FnExactClamp: the program's Clamp and the reference's agree, for all three int arguments. -/
import Derived.Test.YtpemfeobcbpjdaaPFnExactClampx1
namespace Go.Proofs.Ytpemfeobcbpjdaa.Pure
open Go.RowKit Go.Proofs.Ytpemfeobcbpjdaa.PFnExactClamp Go.Proofs.YtpemfeobcbpjdaaW.PrintWords Go.Proofs.YtpemfeobcbpjdaaW.PrintLast

theorem clamp_some (a b c : Int) : ∃ r, spec_Clamp.f a b c = some r := by
  unfold spec_Clamp.f
  split
  · exact ⟨_, rfl⟩
  · split <;> exact ⟨_, rfl⟩

theorem FnExactClamp : laws_FnExactClamp.Pure := by
  intro a b c _ _ _
  obtain ⟨r, h⟩ := clamp_some a b c
  have e : impl_Clamp.f a b c = spec_Clamp.f a b c := rfl
  unfold laws_FnExactClamp.f
  rw [e, h]
  simp

end Go.Proofs.Ytpemfeobcbpjdaa.Pure
