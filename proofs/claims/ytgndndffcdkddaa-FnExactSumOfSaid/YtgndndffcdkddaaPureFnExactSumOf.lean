/- FnExactSumOf: the program's SumOf and the reference's agree, for every text. -/
import Derived.Test.YtgndndffcdkddaaPFnExactSumOfx0
import Derived.Test.YtgndndffcdkddaaPFnExactSumOfx1
import Derived.Test.YtgndndffcdkddaaPlain
namespace Go.Proofs.Ytgndndffcdkddaa.Pure
open Go.RowKit Go.Proofs.Ytgndndffcdkddaa.PFnExactSumOf Go.Proofs.Ytgndndffcdkddaa.Plain Go.Proofs.YtgndndffcdkddaaW.PrintWords Go.Proofs.YtgndndffcdkddaaW.PrintLast

theorem xor_range (a b : Int) : 0 ≤ Go.bits .xor .u32 a b ∧ Go.bits .xor .u32 a b < 4294967296 := by
  unfold Go.bits
  simp only [IntKind.wrap_u32]
  omega

theorem and_one {x : Int} (h0 : 0 ≤ x) (h1 : x < 4294967296) : Go.bits .and .u32 x 1 = x % 2 := by
  have h := bits_mask .u32 32 (by decide) (fun n a b => by rw [IntKind.wrap_u32]; omega) 1 (by decide) x h0 (by simpa using h1)
  simpa using h

theorem more_same (a : ByteArray) (ha : a.size ≤ 140737488351232) (M : Nat) :
    (∀ (k : Nat) (x i : Int), 0 ≤ x → x < 4294967296 → 0 ≤ i → i ≤ a.size → 10 * (a.size - i) ≤ M → M < k → ∃ r, spec_SumMore.l0 k x a i = some r ∧ impl_SumMore.l0 k x a i = some r ∧ 0 ≤ r ∧ r < 4294967296) ∧
    (∀ (k : Nat) (x i j : Int), 0 ≤ x → x < 4294967296 → 0 ≤ i → i < a.size → 0 ≤ j → j ≤ 8 → 10 * (a.size - i - 1) + (8 - j) + 1 ≤ M → M < k →
      ∃ r, spec_SumMore.l1 k x a i j = some r ∧ impl_SumMore.l1 k x a i j = some r ∧ 0 ≤ r ∧ r < 4294967296) := by
  induction M with
  | zero =>
    constructor
    · intro k x i h0 h1 hi hn hM hk
      obtain ⟨k, rfl⟩ : ∃ m, k = m + 1 := ⟨k - 1, by omega⟩
      simp only [spec_SumMore.l0, impl_SumMore.l0]
      rw [if_neg (by omega), if_neg (by omega)]
      exact ⟨x, rfl, rfl, h0, h1⟩
    · intro k x i j h0 h1 hi hn hj hj8 hM hk
      omega
  | succ M ih =>
    obtain ⟨ih0, ih1⟩ := ih
    constructor
    · intro k x i h0 h1 hi hn hM hk
      obtain ⟨k, rfl⟩ : ∃ m, k = m + 1 := ⟨k - 1, by omega⟩
      simp only [spec_SumMore.l0, impl_SumMore.l0]
      by_cases hlt : i < (a.size : Int)
      · rw [if_pos hlt, if_pos hlt, if_pos hi, if_pos hi]
        have hx := xor_range x (bt a i % 4294967296)
        exact ih1 k _ i 0 hx.1 hx.2 hi hlt (by omega) (by omega) (by omega) (by omega)
      · rw [if_neg hlt, if_neg hlt]
        exact ⟨x, rfl, rfl, h0, h1⟩
    · intro k x i j h0 h1 hi hn hj hj8 hM hk
      obtain ⟨k, rfl⟩ : ∃ m, k = m + 1 := ⟨k - 1, by omega⟩
      simp only [spec_SumMore.l1, impl_SumMore.l1]
      rw [Int.tmod_eq_emod_of_nonneg h0, Int.tdiv_eq_ediv_of_nonneg h0, and_one h0 h1, Int.emod_eq_of_lt (a := x / 2) (by omega) (by omega), w64 (n := j + 1) (by omega) (by omega), w64 (n := i + 1) (by omega) (by omega)]
      by_cases hlt : j < 8
      · rw [if_pos hlt, if_pos hlt]
        by_cases ho : x % 2 = 1
        · rw [if_pos ho, if_pos ho]
          have hx := xor_range (x / 2) 3558460437
          exact ih1 k _ i (j + 1) hx.1 hx.2 hi hn (by omega) (by omega) (by omega) (by omega)
        · rw [if_neg ho, if_neg ho]
          exact ih1 k _ i (j + 1) (by omega) (by omega) hi hn (by omega) (by omega) (by omega) (by omega)
      · rw [if_neg hlt, if_neg hlt]
        exact ih0 k x (i + 1) h0 h1 (by omega) (by omega) (by omega) (by omega)

theorem sum_same (a : ByteArray) (ha : a.size ≤ 140737488351232) (x : Int) (h0 : 0 ≤ x) (h1 : x < 4294967296) (k : Nat) (hk : 10 * a.size < k) :
    ∃ r, spec_SumMore.f k x a = some r ∧ impl_SumMore.f k x a = some r ∧ 0 ≤ r ∧ r < 4294967296 :=
  (more_same a ha (10 * a.size)).1 k x 0 h0 h1 (by omega) (by omega) (by omega) hk

theorem FnExactSumOf : laws_FnExactSumOf.Pure := by
  intro a ha
  refine ⟨10 * a.size + 1, ?_⟩
  obtain ⟨r, h, g, _⟩ := sum_same a ha 4294967295 (by omega) (by omega) (10 * a.size + 1) (by omega)
  unfold laws_FnExactSumOf.f spec_SumOf.f impl_SumOf.f
  split
  · rfl
  · rw [h, g]
    simp
end Go.Proofs.Ytgndndffcdkddaa.Pure
