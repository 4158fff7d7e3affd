/- FnExactVarText: the program's VarText and the reference's agree, for every int. -/
import Derived.Test.YtgndndffcdkddaaPFnExactVarTextx0
import Derived.Test.YtgndndffcdkddaaPFnExactVarTextx1
import Derived.Test.YtgndndffcdkddaaPlain
namespace Go.Proofs.Ytgndndffcdkddaa.Pure
open Go.RowKit Go.Proofs.Ytgndndffcdkddaa.PFnExactVarText Go.Proofs.Ytgndndffcdkddaa.Plain Go.Proofs.YtgndndffcdkddaaW.PrintWords Go.Proofs.YtgndndffcdkddaaW.PrintLast

theorem spec_var (n : Nat) : ∀ (k : Nat) (acc : List Int), n < k → acc.length + n < 140737488355328 → spec_l01Var.l0 k (n : Int) acc = some (strOfNums (acc ++ vtL n)) := by
  induction n using Nat.strongRecOn with
  | ind n ih =>
    intro k acc hk hn
    obtain ⟨k, rfl⟩ : ∃ m, k = m + 1 := ⟨k - 1, by omega⟩
    simp only [spec_l01Var.l0]
    by_cases h : 127 < n
    · rw [if_pos (by omega), if_pos (by omega), tdiv_pos (by omega), tmod_pos (by omega), w64 (n := (n : Int) / 128) (by omega) (by omega), w64 (n := (n : Int) % 128 + 128) (by omega) (by omega)]
      rw [show (n : Int) / 128 = ((n / 128 : Nat) : Int) by omega, ih (n / 128) (by omega) k _ (by omega) (by simp only [List.length_append, List.length_cons, List.length_nil]; omega), vtL_big h,
        show ((n : Int) % 128 + 128) % 256 = ((n % 128 + 128 : Nat) : Int) by omega]
      simp
    · rw [if_neg (by omega), if_pos (by omega), vtL_small h, show (n : Int) % 256 = (n : Int) by omega]

theorem impl_var (n : Nat) : ∀ (k : Nat) (acc : List Int), n < k → acc.length + n < 140737488355328 → impl_varText.l0 k (n : Int) acc = some (strOfNums (acc ++ vtL n)) := by
  induction n using Nat.strongRecOn with
  | ind n ih =>
    intro k acc hk hn
    obtain ⟨k, rfl⟩ : ∃ m, k = m + 1 := ⟨k - 1, by omega⟩
    simp only [impl_varText.l0]
    by_cases h : 127 < n
    · rw [if_pos (by omega), if_pos (by omega), tdiv_pos (by omega), tmod_pos (by omega), w64 (n := (n : Int) / 128) (by omega) (by omega), w64 (n := 128 + (n : Int) % 128) (by omega) (by omega)]
      rw [show (n : Int) / 128 = ((n / 128 : Nat) : Int) by omega, ih (n / 128) (by omega) k _ (by omega) (by simp only [List.length_append, List.length_cons, List.length_nil]; omega), vtL_big h,
        show (128 + (n : Int) % 128) % 256 = ((n % 128 + 128 : Nat) : Int) by omega]
      simp
    · rw [if_neg (by omega), if_pos (by omega), vtL_small h, show (n : Int) % 256 = (n : Int) by omega]

theorem FnExactVarText : laws_FnExactVarText.Pure := by
  intro n hw
  refine ⟨n.toNat + 1, ?_⟩
  unfold laws_FnExactVarText.f spec_VarText.f impl_VarText.f spec_l01Var.f impl_varText.f spec_l01In.f
  by_cases h0 : n < 0
  · rw [if_neg (by omega), if_pos h0]
    simp
  · rw [if_pos (by omega), if_neg h0]
    by_cases h1 : n > 1000000000
    · have e : decide (n ≤ 1000000000) = false := decide_eq_false (by omega)
      rw [if_pos h1, e]
      simp
    · have e : decide (n ≤ 1000000000) = true := decide_eq_true (by omega)
      obtain ⟨m, rfl⟩ := Int.eq_ofNat_of_zero_le (show 0 ≤ n by omega)
      rw [if_neg h1, e]
      simp only [Option.bind_some, if_true, Int.toNat_natCast]
      rw [spec_var m _ [] (by omega) (by simp only [List.length_nil]; omega), impl_var m _ [] (by omega) (by simp only [List.length_nil]; omega)]
      simp
end Go.Proofs.Ytgndndffcdkddaa.Pure
