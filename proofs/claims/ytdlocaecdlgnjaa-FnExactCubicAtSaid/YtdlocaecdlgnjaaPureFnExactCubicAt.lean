/- FnExactCubicAt: the program's CubicAt and the reference's agree, for all points and every step. -/
import Derived.Test.YtdlocaecdlgnjaaQFnExactCubicAtx1
import Derived.Test.YtdlocaecdlgnjaaQFnExactCubicAtx2
import Derived.Test.YtdlocaecdlgnjaaQFnExactCubicAtx3
import Derived.Test.YtdlocaecdlgnjaaPlain
namespace Go.Proofs.Ytdlocaecdlgnjaa.Pure
open Go.RowKit Go.Proofs.Ytdlocaecdlgnjaa.PFnExactCubicAt Go.Proofs.Ytdlocaecdlgnjaa.Plain Go.Proofs.YtdlocaecdlgnjaaW.PrintWords Go.Proofs.YtdlocaecdlgnjaaW.PrintLast

theorem spec_clamp (x lo hi : Int) : spec_Clamp.f x lo hi = some (clampI x lo hi) := by
  unfold spec_Clamp.f
  exact clampI_text x lo hi

theorem impl_clamp (x lo hi : Int) : impl_Clamp.f x lo hi = some (clampI x lo hi) := by
  unfold impl_Clamp.f
  exact clampI_text x lo hi

def farB (x : Int) : Bool := decide (-8388608 ≤ x) && decide (x ≤ 8388608)
theorem farB_true {x : Int} : farB x = true ↔ -8388608 ≤ x ∧ x ≤ 8388608 := by simp [farB]

theorem spec_far (x : Int) : spec_l01In.f x (-8388608) 8388608 = some (farB x) := by
  unfold spec_l01In.f farB
  by_cases h : -8388608 ≤ x
  · rw [if_pos h]
    simp [h]
  · rw [if_neg h]
    simp [h]
theorem spec_pointOk (x y : Int) : spec_PointOk.f x y = some (farB x && farB y) := by
  unfold spec_PointOk.f
  rw [spec_far, spec_far]
  cases farB x <;> rfl

theorem impl_far (x : Int) : impl_isFar.f x = some (farB x) := by
  unfold impl_isFar.f impl_inRange.f farB
  by_cases h : -8388608 ≤ x
  · rw [if_pos h]
    simp [h]
  · rw [if_neg h]
    simp [h]
theorem impl_pointOk (x y : Int) : impl_PointOk.f x y = some (farB x && farB y) := by
  unfold impl_PointOk.f
  rw [impl_far, impl_far]
  cases farB x <;> rfl

def okP (p : S24) : Bool := farB p.f0 && farB p.f1
theorem rdP (l : List S24) (i : Nat) (h : i < l.length) : rd_T24 l (i : Int) = l[i] := by
  unfold rd_T24
  rw [show ((i : Int)).toNat = i by omega, List.getD_eq_getElem?_getD, List.getElem?_eq_getElem h]
  rfl
theorem points_loop (l : List S24) (hl : l.length ≤ 9223372036854775806) (d : Nat) : ∀ (k i : Nat), l.length - i = d → i ≤ l.length → d < k → impl_pointsOk.l0 k l (l.length : Int) (i : Int) = some ((l.drop i).all okP) := by
  induction d with
  | zero =>
    intro k i hd hi hk
    obtain ⟨k, rfl⟩ : ∃ m, k = m + 1 := ⟨k - 1, by omega⟩
    simp only [impl_pointsOk.l0]
    rw [if_neg (by omega), List.drop_of_length_le (by omega)]
    rfl
  | succ d ih =>
    intro k i hd hi hk
    obtain ⟨k, rfl⟩ : ∃ m, k = m + 1 := ⟨k - 1, by omega⟩
    simp only [impl_pointsOk.l0]
    have hlt : i < l.length := by omega
    have c1 : (i : Int) < (l.length : Int) := by omega
    have c2 : (0 : Int) ≤ (i : Int) := by omega
    rw [if_pos c1, if_pos c2, if_pos c1, impl_pointOk, rdP l i hlt, w64 (n := (i : Int) + 1) (by omega) (by omega), show (i : Int) + 1 = ((i + 1 : Nat) : Int) by omega, ih k (i + 1) (by omega) (by omega) (by omega), List.drop_eq_getElem_cons hlt]
    simp only [Option.bind_some, List.all_cons, okP]
    cases farB l[i].f0 <;> cases farB l[i].f1 <;> simp
theorem points_ok (l : List S24) (hl : l.length ≤ 9223372036854775806) (k : Nat) (hk : l.length < k) : impl_pointsOk.f k l = some (l.all okP) := by
  unfold impl_pointsOk.f
  have := points_loop l hl l.length k 0 (by omega) (by omega) hk
  simpa using this

theorem floor_some (a b : Int) : ∃ r, spec_FloorDiv.f a b = some r := by
  unfold spec_FloorDiv.f
  split
  · exact ⟨_, rfl⟩
  · rw [if_neg (by omega)]
    split <;> exact ⟨_, rfl⟩
theorem round_some (a b : Int) : ∃ r, spec_RoundDiv.f a b = some r ∧ impl_RoundDiv.f a b = some r := by
  have e : impl_RoundDiv.f a b = spec_RoundDiv.f a b := rfl
  rw [e]
  unfold spec_RoundDiv.f
  split
  · exact ⟨_, rfl, rfl⟩
  · obtain ⟨q, h⟩ := floor_some a b
    rw [h]
    simp only [Option.bind_some]
    split <;> exact ⟨_, rfl, rfl⟩
theorem wrap_zero (y : Int) : wrap64 (0 + wrap64 y) = wrap64 y := by
  unfold wrap64
  omega
theorem wrap_wrap (y : Int) : wrap64 (wrap64 y) = wrap64 y := by
  unfold wrap64
  omega
theorem eqPoint_self (a b : Int) : laws_eqPoint.f a b a b = some true := by
  unfold laws_eqPoint.f
  simp

theorem weigh4 (k : Nat) (a0 a1 b0 b1 c0 c1 d0 d1 u v w z : Int) : ∃ r : Int × Int,
    impl_weighed.l0 (k + 5) [u, v, w, z] 512 0 0 [⟨a0, a1⟩, ⟨b0, b1⟩, ⟨c0, c1⟩, ⟨d0, d1⟩] 4 0 = some r ∧
    spec_RoundDiv.f (wrap64 (wrap64 (wrap64 (wrap64 (u * a0) + wrap64 (v * b0)) + wrap64 (w * c0)) + wrap64 (z * d0))) 512 = some r.1 ∧
    spec_RoundDiv.f (wrap64 (wrap64 (wrap64 (wrap64 (u * a1) + wrap64 (v * b1)) + wrap64 (w * c1)) + wrap64 (z * d1))) 512 = some r.2 := by
  obtain ⟨x, h1, g1⟩ := round_some (wrap64 (wrap64 (wrap64 (wrap64 (u * a0) + wrap64 (v * b0)) + wrap64 (w * c0)) + wrap64 (z * d0))) 512
  obtain ⟨y, h2, g2⟩ := round_some (wrap64 (wrap64 (wrap64 (wrap64 (u * a1) + wrap64 (v * b1)) + wrap64 (w * c1)) + wrap64 (z * d1))) 512
  refine ⟨(x, y), ?_, h1, h2⟩
  have e1 : wrap64 (0 + 1) = 1 := by decide +kernel
  have e2 : wrap64 (1 + 1) = 2 := by decide +kernel
  have e3 : wrap64 (2 + 1) = 3 := by decide +kernel
  have e4 : wrap64 (3 + 1) = 4 := by decide +kernel
  rw [Int.mul_comm u a0, Int.mul_comm v b0, Int.mul_comm w c0, Int.mul_comm z d0] at g1
  rw [Int.mul_comm u a1, Int.mul_comm v b1, Int.mul_comm w c1, Int.mul_comm z d1] at g2
  simp only [impl_weighed.l0, e1, e2, e3, e4]
  simp [rd, rd_T24, wrap_wrap, g1, g2]

theorem FnExactCubicAt (a0 a1 b0 b1 c0 c1 d0 d1 i : Int) (_ : (Lit.int .i64 a0).wf = true) (_ : (Lit.int .i64 a1).wf = true) (_ : (Lit.int .i64 b0).wf = true) (_ : (Lit.int .i64 b1).wf = true)
    (_ : (Lit.int .i64 c0).wf = true) (_ : (Lit.int .i64 c1).wf = true) (_ : (Lit.int .i64 d0).wf = true) (_ : (Lit.int .i64 d1).wf = true) (_ : (Lit.int .i64 i).wf = true) : ∃ k, laws_FnExactCubicAt.f k a0 a1 b0 b1 c0 c1 d0 d1 i = some true := by
  refine ⟨9 + 5, ?_⟩
  unfold laws_FnExactCubicAt.f laws_toPoint.f spec_CubicAt.f impl_CubicAt.f impl_weighed.f
  simp only [Option.bind_some, spec_pointOk, impl_clamp]
  rw [points_ok _ (by simp) _ (by simp)]
  simp only [Option.bind_some, List.all_cons, List.all_nil, okP, Bool.and_true]
  obtain ⟨r, h, g1, g2⟩ := weigh4 9 a0 a1 b0 b1 c0 c1 d0 d1 (wrap64 (wrap64 (wrap64 (8 - clampI i 0 8) * wrap64 (8 - clampI i 0 8)) * wrap64 (8 - clampI i 0 8))) (wrap64 (wrap64 (wrap64 (3 * clampI i 0 8) * wrap64 (8 - clampI i 0 8)) * wrap64 (8 - clampI i 0 8))) (wrap64 (wrap64 (wrap64 (3 * clampI i 0 8) * clampI i 0 8) * wrap64 (8 - clampI i 0 8))) (wrap64 (wrap64 (clampI i 0 8 * clampI i 0 8) * clampI i 0 8))
  cases ha : (farB a0 && farB a1) <;> cases hb : (farB b0 && farB b1) <;> cases hc : (farB c0 && farB c1) <;> cases hd : (farB d0 && farB d1) <;> simp [spec_CubicAt.j0, spec_clamp, h, g1, g2, eqPoint_self]
end Go.Proofs.Ytdlocaecdlgnjaa.Pure
