/- FnExactApply: the program's Apply and the reference's agree, for every mat and every point. -/
import Derived.Test.YtdlocaecdlgnjaaQFnExactApplyx0
import Derived.Test.YtdlocaecdlgnjaaQFnExactApplyx1
import Derived.Test.YtdlocaecdlgnjaaQFnExactApplyx2
import Derived.Test.YtdlocaecdlgnjaaQFnExactApplyx3
import Derived.Test.YtdlocaecdlgnjaaPlain
namespace Go.Proofs.Ytdlocaecdlgnjaa.Pure
open Go.RowKit Go.Proofs.Ytdlocaecdlgnjaa.PFnExactApply Go.Proofs.Ytdlocaecdlgnjaa.Plain Go.Proofs.YtdlocaecdlgnjaaW.PrintWords Go.Proofs.YtdlocaecdlgnjaaW.PrintLast

theorem spec_clamp (x lo hi : Int) : spec_Clamp.f x lo hi = some (clampI x lo hi) := by
  unfold spec_Clamp.f
  exact clampI_text x lo hi

theorem impl_clamp (x lo hi : Int) : impl_Clamp.f x lo hi = some (clampI x lo hi) := by
  unfold impl_Clamp.f
  exact clampI_text x lo hi

theorem floor_some (a b : Int) : ∃ r, spec_FloorDiv.f a b = some r := by
  unfold spec_FloorDiv.f
  split
  · exact ⟨_, rfl⟩
  · rw [if_neg (by omega)]
    split <;> exact ⟨_, rfl⟩
theorem round_some (a b : Int) : ∃ r, spec_RoundDiv.f a b = some r ∧ impl_RoundDiv.f a b = some r := by
  have e : impl_RoundDiv.f a b = spec_RoundDiv.f a b := rfl
  rw [e]
  unfold spec_RoundDiv.f
  split
  · exact ⟨_, rfl, rfl⟩
  · obtain ⟨q, h⟩ := floor_some a b
    rw [h]
    simp only [Option.bind_some]
    split <;> exact ⟨_, rfl, rfl⟩
theorem wrap_zero (y : Int) : wrap64 (0 + wrap64 y) = wrap64 y := by
  unfold wrap64
  omega
theorem wrap_wrap (y : Int) : wrap64 (wrap64 y) = wrap64 y := by
  unfold wrap64
  omega

theorem eqPoint_self (a b : Int) : laws_eqPoint.f a b a b = some true := by
  unfold laws_eqPoint.f
  simp

theorem in_same (a b c : Int) : ∃ r, spec_l01In.f a b c = some r ∧ impl_inRange.f a b c = some r := by
  have e : impl_inRange.f a b c = spec_l01In.f a b c := rfl
  obtain ⟨r, h⟩ := impl_inRange.total a b c
  exact ⟨r, e ▸ h, h⟩
theorem far_same (a : Int) : ∃ r, spec_l01In.f a (-8388608) 8388608 = some r ∧ impl_isFar.f a = some r := by
  obtain ⟨r, h, g⟩ := in_same a (-8388608) 8388608
  exact ⟨r, h, by unfold impl_isFar.f; rw [g]; rfl⟩
theorem mat_same (a b c d e f : Int) : ∃ r, spec_MatOk.f a b c d e f = some r ∧ impl_MatOk.f a b c d e f = some r := by
  obtain ⟨r1, h1, g1⟩ := in_same a (-1048576) 1048576
  obtain ⟨r2, h2, g2⟩ := in_same b (-1048576) 1048576
  obtain ⟨r3, h3, g3⟩ := in_same c (-1048576) 1048576
  obtain ⟨r4, h4, g4⟩ := in_same d (-1048576) 1048576
  obtain ⟨r5, h5, g5⟩ := far_same e
  obtain ⟨r6, h6, g6⟩ := far_same f
  unfold spec_MatOk.f impl_MatOk.f
  simp only [Option.bind_some, h1, h2, h3, h4, h5, h6, g1, g2, g3, g4, g5, g6]
  cases r1 <;> cases r2 <;> cases r3 <;> cases r4 <;> cases r5 <;> cases r6 <;> exact ⟨_, rfl, rfl⟩
theorem point_same (x y : Int) : ∃ r, spec_PointOk.f x y = some r ∧ impl_PointOk.f x y = some r := by
  obtain ⟨r1, h1, g1⟩ := far_same x
  obtain ⟨r2, h2, g2⟩ := far_same y
  unfold spec_PointOk.f impl_PointOk.f
  simp only [Option.bind_some, h1, h2, g1, g2]
  cases r1 <;> cases r2 <;> exact ⟨_, rfl, rfl⟩
theorem apply_same (n : Nat) (a b c d e f x y : Int) : ∃ p : Int × Int, spec_Apply.f (n + 1) a b c d e f x y = some p ∧ impl_Apply.f a b c d e f x y = some p := by
  obtain ⟨m, h1, g1⟩ := mat_same a b c d e f
  obtain ⟨q, h2, g2⟩ := point_same x y
  obtain ⟨u, h3, g3⟩ := round_some (wrap64 ((wrap64 (a * x)) + (wrap64 (c * y)))) 65536
  obtain ⟨v, h4, g4⟩ := round_some (wrap64 ((wrap64 (b * x)) + (wrap64 (d * y)))) 65536
  unfold spec_Apply.f impl_Apply.f impl_apply.f impl_mixed.f
  rw [h1, g1, h2, g2, g3, g4]
  cases m
  · exact ⟨_, rfl, rfl⟩
  · cases q
    · exact ⟨_, rfl, rfl⟩
    · simp only [Option.bind_some, if_true, Bool.not_true]
      rw [impl_clamp, impl_clamp, spec_Apply.j0, if_neg (by decide), h3, h4]
      simp only [Option.bind_some]
      rw [spec_clamp, spec_clamp]
      exact ⟨_, rfl, rfl⟩
theorem FnExactApply (a b c d e f x y : Int) (_ : (Lit.int .i64 a).wf = true) (_ : (Lit.int .i64 b).wf = true) (_ : (Lit.int .i64 c).wf = true) (_ : (Lit.int .i64 d).wf = true) (_ : (Lit.int .i64 e).wf = true) (_ : (Lit.int .i64 f).wf = true)
    (_ : (Lit.int .i64 x).wf = true) (_ : (Lit.int .i64 y).wf = true) : ∃ k, laws_FnExactApply.f k a b c d e f x y = some true := by
  refine ⟨9 + 1, ?_⟩
  obtain ⟨p, h, g⟩ := apply_same 9 a b c d e f x y
  unfold laws_FnExactApply.f laws_toMat.f laws_toPoint.f
  simp only [Option.bind_some, h, g, eqPoint_self, if_true]
end Go.Proofs.Ytdlocaecdlgnjaa.Pure
