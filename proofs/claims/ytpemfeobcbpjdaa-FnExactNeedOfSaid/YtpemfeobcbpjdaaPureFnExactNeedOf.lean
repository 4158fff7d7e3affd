/- FnExactNeedOf: the program's NeedOf and the reference's agree, for every int. -/
import Derived.Test.YtpemfeobcbpjdaaPFnExactNeedOfx1
namespace Go.Proofs.Ytpemfeobcbpjdaa.Pure
open Go.RowKit Go.Proofs.Ytpemfeobcbpjdaa.PFnExactNeedOf Go.Proofs.YtpemfeobcbpjdaaW.PrintWords Go.Proofs.YtpemfeobcbpjdaaW.PrintLast

theorem needOf_out (a : Int) (h : ¬ (1 ≤ a ∧ a ≤ 5)) : spec_NeedOf.f a = some (-1) := by
  have e : spec_l01In.f a 1 5 = some false := by
    unfold spec_l01In.f
    by_cases h1 : a ≥ 1
    · rw [if_pos h1]
      simp only [Option.some.injEq, decide_eq_false_iff_not]
      omega
    · rw [if_neg h1]
  unfold spec_NeedOf.f
  rw [e]
  rfl

theorem needOf_impl_out (a : Int) (h : ¬ (1 ≤ a ∧ a ≤ 5)) : impl_NeedOf.f 1 a = some (-1) := by
  unfold impl_NeedOf.f
  rw [if_neg (by omega)]
  unfold impl_NeedOf.j0
  have e : (a == 2) = false := beq_eq_false_iff_ne.mpr (by omega)
  have h3 : ¬ a = 3 := by omega
  have h4 : ¬ a = 4 := by omega
  have h5 : ¬ a = 5 := by omega
  simp [e, h3, h4, h5]

theorem FnExactNeedOf : laws_FnExactNeedOf.Pure := by
  intro a _
  refine ⟨1, ?_⟩
  by_cases h : 1 ≤ a ∧ a ≤ 5
  · have hc : a = 1 ∨ a = 2 ∨ a = 3 ∨ a = 4 ∨ a = 5 := by omega
    rcases hc with rfl | rfl | rfl | rfl | rfl <;> decide +kernel
  · unfold laws_FnExactNeedOf.f
    rw [needOf_out a h, needOf_impl_out a h]
    rfl

end Go.Proofs.Ytpemfeobcbpjdaa.Pure
