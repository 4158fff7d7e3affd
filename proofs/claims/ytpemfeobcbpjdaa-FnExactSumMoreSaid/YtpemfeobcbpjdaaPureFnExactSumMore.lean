/- FnExactSumMore: the program's SumMore and the reference's agree, for every sum and every text. -/
import Derived.Test.YtpemfeobcbpjdaaPFnExactSumMorex1
namespace Go.Proofs.Ytpemfeobcbpjdaa.Pure
open Go.RowKit Go.Proofs.Ytpemfeobcbpjdaa.PFnExactSumMore Go.Proofs.YtpemfeobcbpjdaaW.PrintWords Go.Proofs.YtpemfeobcbpjdaaW.PrintLast

theorem w64 {n : Int} (h0 : -9223372036854775808 ≤ n) (h1 : n ≤ 9223372036854775807) : wrap64 n = n := by
  unfold wrap64
  omega

theorem xor_range (a b : Int) : 0 ≤ Go.bits .xor .u32 a b ∧ Go.bits .xor .u32 a b < 4294967296 := by
  unfold Go.bits
  simp only [IntKind.wrap_u32]
  omega

theorem and_one {x : Int} (h0 : 0 ≤ x) (h1 : x < 4294967296) : Go.bits .and .u32 x 1 = x % 2 := by
  have h := bits_mask .u32 32 (by decide) (fun n a b => by rw [IntKind.wrap_u32]; omega) 1 (by decide) x h0 (by simpa using h1)
  simpa using h

theorem more_same (a : ByteArray) (ha : a.size ≤ 140737488351232) (M : Nat) :
    (∀ (k : Nat) (x i : Int), 0 ≤ x → x < 4294967296 → 0 ≤ i → i ≤ a.size → 10 * (a.size - i) ≤ M → M < k → ∃ r, spec_SumMore.l0 k x a i = some r ∧ impl_SumMore.l0 k x a i = some r) ∧
    (∀ (k : Nat) (x i j : Int), 0 ≤ x → x < 4294967296 → 0 ≤ i → i < a.size → 0 ≤ j → j ≤ 8 → 10 * (a.size - i - 1) + (8 - j) + 1 ≤ M → M < k →
      ∃ r, spec_SumMore.l1 k x a i j = some r ∧ impl_SumMore.l1 k x a i j = some r) := by
  induction M with
  | zero =>
    constructor
    · intro k x i h0 h1 hi hn hM hk
      obtain ⟨k, rfl⟩ : ∃ m, k = m + 1 := ⟨k - 1, by omega⟩
      simp only [spec_SumMore.l0, impl_SumMore.l0]
      rw [if_neg (by omega), if_neg (by omega)]
      exact ⟨x, rfl, rfl⟩
    · intro k x i j h0 h1 hi hn hj hj8 hM hk
      omega
  | succ M ih =>
    obtain ⟨ih0, ih1⟩ := ih
    constructor
    · intro k x i h0 h1 hi hn hM hk
      obtain ⟨k, rfl⟩ : ∃ m, k = m + 1 := ⟨k - 1, by omega⟩
      simp only [spec_SumMore.l0, impl_SumMore.l0]
      by_cases hlt : i < (a.size : Int)
      · rw [if_pos hlt, if_pos hlt, if_pos hi, if_pos hi]
        have hx := xor_range x (bt a i % 4294967296)
        exact ih1 k _ i 0 hx.1 hx.2 hi hlt (by omega) (by omega) (by omega) (by omega)
      · rw [if_neg hlt, if_neg hlt]
        exact ⟨x, rfl, rfl⟩
    · intro k x i j h0 h1 hi hn hj hj8 hM hk
      obtain ⟨k, rfl⟩ : ∃ m, k = m + 1 := ⟨k - 1, by omega⟩
      simp only [spec_SumMore.l1, impl_SumMore.l1]
      rw [Int.tmod_eq_emod_of_nonneg h0, Int.tdiv_eq_ediv_of_nonneg h0, and_one h0 h1, Int.emod_eq_of_lt (a := x / 2) (by omega) (by omega), w64 (n := j + 1) (by omega) (by omega), w64 (n := i + 1) (by omega) (by omega)]
      by_cases hlt : j < 8
      · rw [if_pos hlt, if_pos hlt]
        by_cases ho : x % 2 = 1
        · rw [if_pos ho, if_pos ho]
          have hx := xor_range (x / 2) 3558460437
          exact ih1 k _ i (j + 1) hx.1 hx.2 hi hn (by omega) (by omega) (by omega) (by omega)
        · rw [if_neg ho, if_neg ho]
          exact ih1 k _ i (j + 1) (by omega) (by omega) hi hn (by omega) (by omega) (by omega) (by omega)
      · rw [if_neg hlt, if_neg hlt]
        exact ih0 k x (i + 1) h0 h1 (by omega) (by omega) (by omega) (by omega)

theorem FnExactSumMore : laws_FnExactSumMore.Pure := by
  intro x a hx ha
  have hw : 0 ≤ x ∧ x < 4294967296 := by
    have h := hx
    simp only [Lit.wf, Bool.and_eq_true, decide_eq_true_eq] at h
    have h1 : IntKind.u32.min = 0 := by decide
    have h2 : IntKind.u32.max = 4294967295 := by decide
    omega
  refine ⟨10 * a.size + 1, ?_⟩
  obtain ⟨r, h, g⟩ := (more_same a ha (10 * a.size)).1 (10 * a.size + 1) x 0 hw.1 hw.2 (by omega) (by omega) (by omega) (by omega)
  unfold laws_FnExactSumMore.f spec_SumMore.f impl_SumMore.f
  split
  · rfl
  · rw [h, g]
    simp

end Go.Proofs.Ytpemfeobcbpjdaa.Pure
