/- FnExactSquares: the program's Squares and the reference's agree, for every box. -/
import Derived.Test.YtjipfhcekjmjkaaQFnExactSquares
import Derived.Test.YtjipfhcekjmjkaaPlain
namespace Go.Proofs.Ytjipfhcekjmjkaa.Pure
open Go.RowKit Go.Proofs.Ytjipfhcekjmjkaa.PFnExactSquares Go.Proofs.Ytjipfhcekjmjkaa.Plain Go.Proofs.YtjipfhcekjmjkaaW.PrintWords Go.Proofs.YtjipfhcekjmjkaaW.PrintLast

theorem spec_empty (a b c d : Int) : spec_Empty.f a b c d = some (emB a b c d) := by
  unfold spec_Empty.f
  exact emB_text a b c d

theorem impl_empty (a b c d : Int) : impl_Empty.f a b c d = some (emB a b c d) := by
  unfold impl_Empty.f
  exact emB_text a b c d

theorem spec_clamp (x lo hi : Int) : spec_Clamp.f x lo hi = some (clampI x lo hi) := by
  unfold spec_Clamp.f
  exact clampI_text x lo hi

theorem impl_clamp (x lo hi : Int) : impl_Clamp.f x lo hi = some (clampI x lo hi) := by
  unfold impl_Clamp.f
  exact clampI_text x lo hi

def c4 (x : Int) : Int := clampI x (-33554432) 33554432
theorem c4_in (x : Int) : -33554432 ≤ c4 x ∧ c4 x ≤ 33554432 := clampI_in (by omega)
theorem spec_c4 (x : Int) : spec_l05Clamp.f x = some (c4 x) := by
  unfold spec_l05Clamp.f
  rw [spec_clamp]
  rfl
theorem impl_c4 (x : Int) : impl_taken.f x 33554432 = some (c4 x) := by
  unfold impl_taken.f
  rw [w64 (by omega) (by omega), impl_clamp]
  rfl

theorem impl_near4 (a b c d : Int) : impl_near.f a b c d = some (c4 a, c4 b, c4 c, c4 d) := by
  unfold impl_near.f
  simp only [impl_c4, Option.bind_some]

theorem eqBox_self (a b c d : Int) : laws_eqBox.f a b c d a b c d = some true := by
  unfold laws_eqBox.f
  simp

theorem spec_floor {a b : Int} (hb : 0 < b) (h0 : -4611686018427387904 ≤ a) (h1 : a ≤ 4611686018427387904) : spec_FloorDiv.f a b = some (a / b) := by
  unfold spec_FloorDiv.f
  exact floor_text hb h0 h1

theorem impl_floor {a b : Int} (hb : 0 < b) (h0 : -4611686018427387904 ≤ a) (h1 : a ≤ 4611686018427387904) : impl_FloorDiv.f a b = some (a / b) := by
  unfold impl_FloorDiv.f
  exact floor_text hb h0 h1

theorem up_same (x : Int) (h0 : -33554432 ≤ x) (h1 : x ≤ 33554432) : wrap64 (-((wrap64 (-x)) / 256)) = wrap64 (wrap64 (x + 256) - 1) / 256 := by
  rw [w64 (n := -x) (by omega) (by omega), w64 (n := x + 256) (by omega) (by omega), w64 (n := x + 256 - 1) (by omega) (by omega), w64 (by omega) (by omega)]
  omega

theorem FnExactSquares (a b c d : Int) (_ : (Lit.int .i64 a).wf = true) (_ : (Lit.int .i64 b).wf = true) (_ : (Lit.int .i64 c).wf = true) (_ : (Lit.int .i64 d).wf = true) :
    laws_FnExactSquares.f a b c d = some true := by
  have ha := c4_in a
  have hb := c4_in b
  have hc := c4_in c
  have hd := c4_in d
  unfold laws_FnExactSquares.f laws_toBox.f spec_Squares.f impl_Squares.f
  simp only [Option.bind_some, spec_empty, impl_empty, spec_c4, impl_near4]
  cases emB a b c d
  · simp only [Bool.false_eq_true, if_false]
    have e1 : wrap64 (-c4 c) = -c4 c := w64 (by omega) (by omega)
    have e2 : wrap64 (-c4 d) = -c4 d := w64 (by omega) (by omega)
    have e3 : wrap64 (wrap64 (c4 c + 256) - 1) = c4 c + 255 := by rw [w64 (n := c4 c + 256) (by omega) (by omega), w64 (by omega) (by omega)]; omega
    have e4 : wrap64 (wrap64 (c4 d + 256) - 1) = c4 d + 255 := by rw [w64 (n := c4 d + 256) (by omega) (by omega), w64 (by omega) (by omega)]; omega
    rw [spec_floor (by omega) (by omega) (by omega), spec_floor (by omega) (by omega) (by omega), spec_floor (by omega) (by omega) (by omega), spec_floor (by omega) (by omega) (by omega),
      impl_floor (by omega) (by omega) (by omega), impl_floor (by omega) (by omega) (by omega), impl_floor (by omega) (by omega) (by omega), impl_floor (by omega) (by omega) (by omega)]
    have u1 := up_same (c4 c) hc.1 hc.2
    have u2 := up_same (c4 d) hd.1 hd.2
    simp only [Option.bind_some, u1, u2, eqBox_self, if_true]
  · simp [eqBox_self]
end Go.Proofs.Ytjipfhcekjmjkaa.Pure
