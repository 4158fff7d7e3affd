/- FnExactTimes255: the program's Times255 and the reference's agree, for all two ints. -/
import Derived.Test.YtjipfhcekjmjkaaPFnExactTimes255x0
import Derived.Test.YtjipfhcekjmjkaaPFnExactTimes255x1
import Derived.Test.YtjipfhcekjmjkaaPlain
namespace Go.Proofs.Ytjipfhcekjmjkaa.Pure
open Go.RowKit Go.Proofs.Ytjipfhcekjmjkaa.PFnExactTimes255 Go.Proofs.Ytjipfhcekjmjkaa.Plain Go.Proofs.YtjipfhcekjmjkaaW.PrintWords Go.Proofs.YtjipfhcekjmjkaaW.PrintLast

theorem spec_floor {a b : Int} (hb : 0 < b) (h0 : -4611686018427387904 ≤ a) (h1 : a ≤ 4611686018427387904) : spec_FloorDiv.f a b = some (a / b) := by
  unfold spec_FloorDiv.f
  exact floor_text hb h0 h1

theorem spec_round {a b : Int} (hb : 0 < b) (hb1 : b ≤ 4611686018427387904) (h0 : -4611686018427387904 ≤ a) (h1 : a ≤ 4611686018427387904) : spec_RoundDiv.f a b = some (rdiv a b) := by
  unfold spec_RoundDiv.f
  rw [if_neg (by omega), spec_floor hb h0 h1]
  simp only [Option.bind_some]
  exact round_text hb hb1 h0 h1

theorem spec_clamp (x lo hi : Int) : spec_Clamp.f x lo hi = some (clampI x lo hi) := by
  unfold spec_Clamp.f
  exact clampI_text x lo hi

theorem spec_times (a b : Int) : spec_Times255.f a b = some (rdiv (clampI a 0 255 * clampI b 0 255) 255) := by
  unfold spec_Times255.f
  rw [spec_clamp, spec_clamp]
  simp only [Option.bind_some]
  have ha := clampI_in (x := a) (lo := 0) (hi := 255) (by omega)
  have hb := clampI_in (x := b) (lo := 0) (hi := 255) (by omega)
  have h0 : 0 ≤ clampI a 0 255 * clampI b 0 255 := Int.mul_nonneg ha.1 hb.1
  have h1 : clampI a 0 255 * clampI b 0 255 ≤ 255 * 255 := Int.mul_le_mul ha.2 hb.2 hb.1 (by omega)
  rw [w64 (by omega) (by omega), spec_round (by omega) (by omega) (by omega) (by omega)]
  rfl

theorem impl_floor {a b : Int} (hb : 0 < b) (h0 : -4611686018427387904 ≤ a) (h1 : a ≤ 4611686018427387904) : impl_FloorDiv.f a b = some (a / b) := by
  unfold impl_FloorDiv.f
  exact floor_text hb h0 h1

theorem impl_round {a b : Int} (hb : 0 < b) (hb1 : b ≤ 4611686018427387904) (h0 : -4611686018427387904 ≤ a) (h1 : a ≤ 4611686018427387904) : impl_RoundDiv.f a b = some (rdiv a b) := by
  unfold impl_RoundDiv.f
  rw [if_neg (by omega), impl_floor hb h0 h1]
  simp only [Option.bind_some]
  exact round_text hb hb1 h0 h1

theorem impl_clamp (x lo hi : Int) : impl_Clamp.f x lo hi = some (clampI x lo hi) := by
  unfold impl_Clamp.f
  exact clampI_text x lo hi

theorem impl_times (a b : Int) : impl_Times255.f a b = some (rdiv (clampI a 0 255 * clampI b 0 255) 255) := by
  unfold impl_Times255.f
  rw [impl_clamp, impl_clamp]
  simp only [Option.bind_some]
  have ha := clampI_in (x := a) (lo := 0) (hi := 255) (by omega)
  have hb := clampI_in (x := b) (lo := 0) (hi := 255) (by omega)
  have h0 : 0 ≤ clampI a 0 255 * clampI b 0 255 := Int.mul_nonneg ha.1 hb.1
  have h1 : clampI a 0 255 * clampI b 0 255 ≤ 255 * 255 := Int.mul_le_mul ha.2 hb.2 hb.1 (by omega)
  rw [w64 (by omega) (by omega), impl_round (by omega) (by omega) (by omega) (by omega)]
  rfl

theorem FnExactTimes255 : laws_FnExactTimes255.Pure := by
  intro a b _ _
  unfold laws_FnExactTimes255.f
  rw [spec_times, impl_times]
  simp
end Go.Proofs.Ytjipfhcekjmjkaa.Pure
