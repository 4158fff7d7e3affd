/- FnExactFloorDiv: the program's FloorDiv and the reference's agree, for all two int arguments. -/
import Derived.Test.YtpemfeobcbpjdaaPFnExactFloorDivx1
namespace Go.Proofs.Ytpemfeobcbpjdaa.Pure
open Go.RowKit Go.Proofs.Ytpemfeobcbpjdaa.PFnExactFloorDiv Go.Proofs.YtpemfeobcbpjdaaW.PrintWords Go.Proofs.YtpemfeobcbpjdaaW.PrintLast

theorem floorDiv_some (a b : Int) : ∃ r, spec_FloorDiv.f a b = some r := by
  unfold spec_FloorDiv.f
  split
  · exact ⟨_, rfl⟩
  · rw [if_neg (by omega)]
    split <;> exact ⟨_, rfl⟩

theorem FnExactFloorDiv : laws_FnExactFloorDiv.Pure := by
  intro a b _ _
  obtain ⟨r, h⟩ := floorDiv_some a b
  have e : impl_FloorDiv.f a b = spec_FloorDiv.f a b := rfl
  unfold laws_FnExactFloorDiv.f
  rw [e, h]
  simp

end Go.Proofs.Ytpemfeobcbpjdaa.Pure
