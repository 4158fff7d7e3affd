/- FnExactCompose: the program's Compose and the reference's agree, for every two mats. -/
import Derived.Test.YtjipfhcekjmjkaaQFnExactComposex0
import Derived.Test.YtjipfhcekjmjkaaQFnExactComposex1
import Derived.Test.YtjipfhcekjmjkaaQFnExactComposex2
import Derived.Test.YtjipfhcekjmjkaaQFnExactComposex3
import Derived.Test.YtjipfhcekjmjkaaQFnExactComposex4
import Derived.Test.YtjipfhcekjmjkaaQFnExactComposex5
import Derived.Test.YtjipfhcekjmjkaaPlain
namespace Go.Proofs.Ytjipfhcekjmjkaa.Pure
open Go.RowKit Go.Proofs.Ytjipfhcekjmjkaa.PFnExactCompose Go.Proofs.Ytjipfhcekjmjkaa.Plain Go.Proofs.YtjipfhcekjmjkaaW.PrintWords Go.Proofs.YtjipfhcekjmjkaaW.PrintLast

theorem floor_some (a b : Int) : ∃ r, spec_FloorDiv.f a b = some r := by
  unfold spec_FloorDiv.f
  split
  · exact ⟨_, rfl⟩
  · rw [if_neg (by omega)]
    split <;> exact ⟨_, rfl⟩
theorem round_some (a b : Int) : ∃ r, spec_RoundDiv.f a b = some r ∧ impl_RoundDiv.f a b = some r := by
  have e : impl_RoundDiv.f a b = spec_RoundDiv.f a b := rfl
  rw [e]
  unfold spec_RoundDiv.f
  split
  · exact ⟨_, rfl, rfl⟩
  · obtain ⟨q, h⟩ := floor_some a b
    rw [h]
    simp only [Option.bind_some]
    split <;> exact ⟨_, rfl, rfl⟩
theorem wrap_zero (y : Int) : wrap64 (0 + wrap64 y) = wrap64 y := by
  unfold wrap64
  omega
theorem wrap_wrap (y : Int) : wrap64 (wrap64 y) = wrap64 y := by
  unfold wrap64
  omega

theorem in_same (a b c : Int) : ∃ r, spec_l01In.f a b c = some r ∧ impl_inRange.f a b c = some r := by
  have e : impl_inRange.f a b c = spec_l01In.f a b c := rfl
  obtain ⟨r, h⟩ := impl_inRange.total a b c
  exact ⟨r, e ▸ h, h⟩
theorem far_same (a : Int) : ∃ r, spec_l01In.f a (-8388608) 8388608 = some r ∧ impl_isFar.f a = some r := by
  obtain ⟨r, h, g⟩ := in_same a (-8388608) 8388608
  exact ⟨r, h, by unfold impl_isFar.f; rw [g]; rfl⟩
theorem mat_same (a b c d e f : Int) : ∃ r, spec_MatOk.f a b c d e f = some r ∧ impl_MatOk.f a b c d e f = some r := by
  obtain ⟨r1, h1, g1⟩ := in_same a (-1048576) 1048576
  obtain ⟨r2, h2, g2⟩ := in_same b (-1048576) 1048576
  obtain ⟨r3, h3, g3⟩ := in_same c (-1048576) 1048576
  obtain ⟨r4, h4, g4⟩ := in_same d (-1048576) 1048576
  obtain ⟨r5, h5, g5⟩ := far_same e
  obtain ⟨r6, h6, g6⟩ := far_same f
  unfold spec_MatOk.f impl_MatOk.f
  simp only [Option.bind_some, h1, h2, h3, h4, h5, h6, g1, g2, g3, g4, g5, g6]
  cases r1 <;> cases r2 <;> cases r3 <;> cases r4 <;> cases r5 <;> cases r6 <;> exact ⟨_, rfl, rfl⟩
theorem eqMat_self (a b c d e f : Int) : laws_eqMat.f a b c d e f a b c d e f = some true := by
  unfold laws_eqMat.f
  simp
theorem compose_same (n : Nat) (a0 a1 a2 a3 a4 a5 b0 b1 b2 b3 b4 b5 : Int) : ∃ p : Int × Int × Int × Int × Int × Int × Bool, spec_Compose.f (n + 1) a0 a1 a2 a3 a4 a5 b0 b1 b2 b3 b4 b5 = some p ∧ impl_Compose.f (n + 1) a0 a1 a2 a3 a4 a5 b0 b1 b2 b3 b4 b5 = some p := by
  obtain ⟨m, h1, g1⟩ := mat_same a0 a1 a2 a3 a4 a5
  obtain ⟨q, h2, g2⟩ := mat_same b0 b1 b2 b3 b4 b5
  obtain ⟨t0, e0, f0⟩ := round_some (wrap64 ((wrap64 (a0 * b0)) + (wrap64 (a2 * b1)))) 65536
  obtain ⟨t1, e1, f1⟩ := round_some (wrap64 ((wrap64 (a1 * b0)) + (wrap64 (a3 * b1)))) 65536
  obtain ⟨t2, e2, f2⟩ := round_some (wrap64 ((wrap64 (a0 * b2)) + (wrap64 (a2 * b3)))) 65536
  obtain ⟨t3, e3, f3⟩ := round_some (wrap64 ((wrap64 (a1 * b2)) + (wrap64 (a3 * b3)))) 65536
  obtain ⟨t4, e4, f4⟩ := round_some (wrap64 ((wrap64 (a0 * b4)) + (wrap64 (a2 * b5)))) 65536
  obtain ⟨t5, e5, f5⟩ := round_some (wrap64 ((wrap64 (a1 * b4)) + (wrap64 (a3 * b5)))) 65536
  obtain ⟨o, h3, g3⟩ := mat_same t0 t1 t2 t3 (wrap64 (t4 + a4)) (wrap64 (t5 + a5))
  unfold spec_Compose.f impl_Compose.f
  rw [h1, g1, h2, g2]
  have no : ∃ p : Int × Int × Int × Int × Int × Int × Bool, spec_Compose.j0 (n + 1) true a0 a1 a2 a3 a4 a5 b0 b1 b2 b3 b4 b5 = some p ∧ impl_Compose.j0 (n + 1) true a0 a1 a2 a3 a4 a5 b0 b1 b2 b3 b4 b5 = some p := ⟨_, rfl, rfl⟩
  cases m
  · exact no
  · cases q
    · exact no
    · simp only [Option.bind_some, if_true, Bool.not_true]
      rw [spec_Compose.j0, impl_Compose.j0, if_neg (by decide), if_neg (by decide)]
      unfold impl_mixed.f
      rw [e0, e1, e2, e3, e4, e5, f0, f1, f2, f3, f4, f5]
      simp only [Option.bind_some, h3, g3]
      cases o <;> exact ⟨_, rfl, rfl⟩
theorem FnExactCompose (a0 a1 a2 a3 a4 a5 b0 b1 b2 b3 b4 b5 : Int) (_ : (Lit.int .i64 a0).wf = true) (_ : (Lit.int .i64 a1).wf = true) (_ : (Lit.int .i64 a2).wf = true) (_ : (Lit.int .i64 a3).wf = true) (_ : (Lit.int .i64 a4).wf = true) (_ : (Lit.int .i64 a5).wf = true)
    (_ : (Lit.int .i64 b0).wf = true) (_ : (Lit.int .i64 b1).wf = true) (_ : (Lit.int .i64 b2).wf = true) (_ : (Lit.int .i64 b3).wf = true) (_ : (Lit.int .i64 b4).wf = true) (_ : (Lit.int .i64 b5).wf = true) :
    ∃ k, laws_FnExactCompose.f k a0 a1 a2 a3 a4 a5 b0 b1 b2 b3 b4 b5 = some true := by
  refine ⟨9 + 1, ?_⟩
  obtain ⟨⟨p0, p1, p2, p3, p4, p5, p6⟩, h, g⟩ := compose_same 9 a0 a1 a2 a3 a4 a5 b0 b1 b2 b3 b4 b5
  unfold laws_FnExactCompose.f laws_toMat.f
  simp only [Option.bind_some, h, g, eqMat_self, if_true]
  cases p6 <;> rfl
end Go.Proofs.Ytjipfhcekjmjkaa.Pure
