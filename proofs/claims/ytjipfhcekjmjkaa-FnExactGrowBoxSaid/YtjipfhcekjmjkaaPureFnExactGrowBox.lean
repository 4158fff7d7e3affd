/- FnExactGrowBox: the program's GrowBox and the reference's agree, for every box and every int. -/
import Derived.Test.YtjipfhcekjmjkaaPFnExactGrowBoxx0
import Derived.Test.YtjipfhcekjmjkaaPFnExactGrowBoxx1
import Derived.Test.YtjipfhcekjmjkaaPFnExactGrowBoxx2
import Derived.Test.YtjipfhcekjmjkaaPlain
namespace Go.Proofs.Ytjipfhcekjmjkaa.Pure
open Go.RowKit Go.Proofs.Ytjipfhcekjmjkaa.PFnExactGrowBox Go.Proofs.Ytjipfhcekjmjkaa.Plain Go.Proofs.YtjipfhcekjmjkaaW.PrintWords Go.Proofs.YtjipfhcekjmjkaaW.PrintLast

theorem spec_empty (a b c d : Int) : spec_Empty.f a b c d = some (emB a b c d) := by
  unfold spec_Empty.f
  exact emB_text a b c d

theorem impl_empty (a b c d : Int) : impl_Empty.f a b c d = some (emB a b c d) := by
  unfold impl_Empty.f
  exact emB_text a b c d

theorem spec_clamp (x lo hi : Int) : spec_Clamp.f x lo hi = some (clampI x lo hi) := by
  unfold spec_Clamp.f
  exact clampI_text x lo hi

theorem impl_clamp (x lo hi : Int) : impl_Clamp.f x lo hi = some (clampI x lo hi) := by
  unfold impl_Clamp.f
  exact clampI_text x lo hi

def c4 (x : Int) : Int := clampI x (-33554432) 33554432
theorem c4_in (x : Int) : -33554432 ≤ c4 x ∧ c4 x ≤ 33554432 := clampI_in (by omega)
theorem spec_c4 (x : Int) : spec_l05Clamp.f x = some (c4 x) := by
  unfold spec_l05Clamp.f
  rw [spec_clamp]
  rfl
theorem impl_c4 (x : Int) : impl_taken.f x 33554432 = some (c4 x) := by
  unfold impl_taken.f
  rw [w64 (by omega) (by omega), impl_clamp]
  rfl

theorem impl_near4 (a b c d : Int) : impl_near.f a b c d = some (c4 a, c4 b, c4 c, c4 d) := by
  unfold impl_near.f
  simp only [impl_c4, Option.bind_some]

theorem eqBox_self (a b c d : Int) : laws_eqBox.f a b c d a b c d = some true := by
  unfold laws_eqBox.f
  simp

theorem FnExactGrowBox (a b c d n : Int) (_ : (Lit.int .i64 a).wf = true) (_ : (Lit.int .i64 b).wf = true) (_ : (Lit.int .i64 c).wf = true) (_ : (Lit.int .i64 d).wf = true) (_ : (Lit.int .i64 n).wf = true) :
    laws_FnExactGrowBox.f a b c d n = some true := by
  unfold laws_FnExactGrowBox.f laws_toBox.f spec_GrowBox.f impl_GrowBox.f
  simp only [Option.bind_some, spec_empty, impl_empty, spec_clamp, impl_clamp, spec_c4, impl_near4]
  cases emB a b c d <;> simp [eqBox_self]
end Go.Proofs.Ytjipfhcekjmjkaa.Pure
