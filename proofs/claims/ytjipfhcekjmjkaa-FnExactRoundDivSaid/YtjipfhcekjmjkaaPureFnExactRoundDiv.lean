/- FnExactRoundDiv: the program's RoundDiv and the reference's agree, for all two ints. -/
import Derived.Test.YtjipfhcekjmjkaaPFnExactRoundDivx0
import Derived.Test.YtjipfhcekjmjkaaPFnExactRoundDivx1
import Derived.Test.YtjipfhcekjmjkaaPlain
namespace Go.Proofs.Ytjipfhcekjmjkaa.Pure
open Go.RowKit Go.Proofs.Ytjipfhcekjmjkaa.PFnExactRoundDiv Go.Proofs.Ytjipfhcekjmjkaa.Plain Go.Proofs.YtjipfhcekjmjkaaW.PrintWords Go.Proofs.YtjipfhcekjmjkaaW.PrintLast

theorem floor_some (a b : Int) : ∃ r, spec_FloorDiv.f a b = some r := by
  unfold spec_FloorDiv.f
  split
  · exact ⟨_, rfl⟩
  · rw [if_neg (by omega)]
    split <;> exact ⟨_, rfl⟩

theorem round_some (a b : Int) : ∃ r, spec_RoundDiv.f a b = some r := by
  unfold spec_RoundDiv.f
  split
  · exact ⟨_, rfl⟩
  · obtain ⟨q, h⟩ := floor_some a b
    rw [h]
    simp only [Option.bind_some]
    split <;> exact ⟨_, rfl⟩

theorem FnExactRoundDiv : laws_FnExactRoundDiv.Pure := by
  intro a b _ _
  obtain ⟨r, h⟩ := round_some a b
  have e : impl_RoundDiv.f a b = spec_RoundDiv.f a b := rfl
  unfold laws_FnExactRoundDiv.f
  rw [e, h]
  simp
end Go.Proofs.Ytjipfhcekjmjkaa.Pure
