/- FnExactShortText: the program's ShortText and the reference's agree, for every text. -/
import Derived.Test.YtgndndffcdkddaaPFnExactShortTextx0
import Derived.Test.YtgndndffcdkddaaPFnExactShortTextx1
import Derived.Test.YtgndndffcdkddaaPlain
namespace Go.Proofs.Ytgndndffcdkddaa.Pure
open Go.RowKit Go.Proofs.Ytgndndffcdkddaa.PFnExactShortText Go.Proofs.Ytgndndffcdkddaa.Plain Go.Proofs.YtgndndffcdkddaaW.PrintWords Go.Proofs.YtgndndffcdkddaaW.PrintLast

theorem spec_var (n : Nat) : ∀ (k : Nat) (acc : List Int), n < k → acc.length + n < 140737488355328 → spec_l01Var.l0 k (n : Int) acc = some (strOfNums (acc ++ vtL n)) := by
  induction n using Nat.strongRecOn with
  | ind n ih =>
    intro k acc hk hn
    obtain ⟨k, rfl⟩ : ∃ m, k = m + 1 := ⟨k - 1, by omega⟩
    simp only [spec_l01Var.l0]
    by_cases h : 127 < n
    · rw [if_pos (by omega), if_pos (by omega), tdiv_pos (by omega), tmod_pos (by omega), w64 (n := (n : Int) / 128) (by omega) (by omega), w64 (n := (n : Int) % 128 + 128) (by omega) (by omega)]
      rw [show (n : Int) / 128 = ((n / 128 : Nat) : Int) by omega, ih (n / 128) (by omega) k _ (by omega) (by simp only [List.length_append, List.length_cons, List.length_nil]; omega), vtL_big h,
        show ((n : Int) % 128 + 128) % 256 = ((n % 128 + 128 : Nat) : Int) by omega]
      simp
    · rw [if_neg (by omega), if_pos (by omega), vtL_small h, show (n : Int) % 256 = (n : Int) by omega]

theorem impl_var (n : Nat) : ∀ (k : Nat) (acc : List Int), n < k → acc.length + n < 140737488355328 → impl_varText.l0 k (n : Int) acc = some (strOfNums (acc ++ vtL n)) := by
  induction n using Nat.strongRecOn with
  | ind n ih =>
    intro k acc hk hn
    obtain ⟨k, rfl⟩ : ∃ m, k = m + 1 := ⟨k - 1, by omega⟩
    simp only [impl_varText.l0]
    by_cases h : 127 < n
    · rw [if_pos (by omega), if_pos (by omega), tdiv_pos (by omega), tmod_pos (by omega), w64 (n := (n : Int) / 128) (by omega) (by omega), w64 (n := 128 + (n : Int) % 128) (by omega) (by omega)]
      rw [show (n : Int) / 128 = ((n / 128 : Nat) : Int) by omega, ih (n / 128) (by omega) k _ (by omega) (by simp only [List.length_append, List.length_cons, List.length_nil]; omega), vtL_big h,
        show (128 + (n : Int) % 128) % 256 = ((n % 128 + 128 : Nat) : Int) by omega]
      simp
    · rw [if_neg (by omega), if_pos (by omega), vtL_small h, show (n : Int) % 256 = (n : Int) by omega]

theorem FnExactShortText : laws_FnExactShortText.Pure := by
  intro s hs
  refine ⟨s.size + 1, ?_⟩
  unfold laws_FnExactShortText.f spec_ShortText.f impl_ShortText.f spec_l01Var.f impl_varText.f
  by_cases h1 : (s.size : Int) > 1048576
  · rw [if_pos h1]
  · rw [if_neg h1]
    by_cases h2 : (s.size : Int) > 20000
    · simp [h2]
    · rw [if_neg h2, if_neg h2, spec_var s.size _ [] (by omega) (by simp only [List.length_nil]; omega), impl_var s.size _ [] (by omega) (by simp only [List.length_nil]; omega)]
      have hl := vtL_length s.size
      simp only [Option.bind_some, List.nil_append, str_size]
      rw [if_pos (by omega)]
      simp
end Go.Proofs.Ytgndndffcdkddaa.Pure
