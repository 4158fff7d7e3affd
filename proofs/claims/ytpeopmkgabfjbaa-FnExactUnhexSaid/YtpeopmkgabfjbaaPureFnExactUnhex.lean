/- FnExactUnhex: the program's Unhex and the reference's agree, for every text. -/
import Derived.Test.YtpeopmkgabfjbaaQFnExactUnhexx0
import Derived.Test.YtpeopmkgabfjbaaQFnExactUnhexx1
import Derived.Test.YtpeopmkgabfjbaaPlain
namespace Go.Proofs.Ytpeopmkgabfjbaa.Pure
open Go.RowKit Go.Proofs.Ytpeopmkgabfjbaa.PFnExactUnhex Go.Proofs.Ytpeopmkgabfjbaa.Plain Go.Proofs.YtpeopmkgabfjbaaW.PrintWords Go.Proofs.YtpeopmkgabfjbaaW.PrintLast

abbrev HX : ByteArray := ⟨#[48, 49, 50, 51, 52, 53, 54, 55, 56, 57, 97, 98, 99, 100, 101, 102]⟩
def val (c : Int) : Int := Go.Lib.indexByte HX.data.toList c.toNat.toUInt8
theorem index_val (c : Int) : strings_IndexByte.f HX c = some (val c) := rfl
theorem value_one (k : Nat) (c : Int) : spec_l01Value.f (k + 1) c = spec_l01Value.f 1 c := by
  unfold spec_l01Value.f
  split <;> rfl
theorem value_all : ∀ n : Nat, n < 256 → spec_l01Value.f 1 (n : Int) = some (val (n : Int)) ∧ -1 ≤ val (n : Int) ∧ val (n : Int) < 16 := by decide +kernel
theorem value_val (k : Nat) (c : Int) (h0 : 0 ≤ c) (h1 : c ≤ 255) : spec_l01Value.f (k + 1) c = some (val c) ∧ -1 ≤ val c ∧ val c < 16 := by
  obtain ⟨n, rfl⟩ := Int.eq_ofNat_of_zero_le h0
  rw [value_one]
  exact value_all n (by omega)
theorem join_all : ∀ t : Nat, t < 16 → ∀ u : Nat, u < 16 → (Go.bits .or .i64 (wrap64 ((t : Int) * 16)) (u : Int)) % 256 = (wrap64 ((wrap64 (16 * (t : Int))) + (u : Int))) % 256 := by decide +kernel
theorem join (t u : Int) (h0 : 0 ≤ t) (h1 : t < 16) (g0 : 0 ≤ u) (g1 : u < 16) : (Go.bits .or .i64 (wrap64 (t * 16)) u) % 256 = (wrap64 ((wrap64 (16 * t)) + u)) % 256 := by
  obtain ⟨n, rfl⟩ := Int.eq_ofNat_of_zero_le h0
  obtain ⟨m, rfl⟩ := Int.eq_ofNat_of_zero_le g0
  exact join_all n (by omega) m (by omega)
theorem unhex_loop (x : ByteArray) (m : Nat) (hx : x.size = 2 * m) (hm : m ≤ 20000) (d : Nat) : ∀ (k i : Nat) (acc : List Int), m - i = d → i ≤ m → acc.length ≤ i → d + 1 < k →
    ∃ r, spec_Unhex.l0 k x acc ((2 * i : Nat) : Int) = some r ∧ impl_Unhex.l0 k x acc ((2 * i : Nat) : Int) = some r := by
  induction d with
  | zero =>
    intro k i acc hd hi ha hk
    obtain ⟨k, rfl⟩ : ∃ m, k = m + 1 := ⟨k - 1, by omega⟩
    simp only [spec_Unhex.l0, impl_Unhex.l0]
    rw [if_neg (by omega), if_neg (by omega)]
    exact ⟨_, rfl, rfl⟩
  | succ d ih =>
    intro k i acc hd hi ha hk
    obtain ⟨k, rfl⟩ : ∃ m, k = m + 2 := ⟨k - 2, by omega⟩
    have c1 : ((2 * i : Nat) : Int) < (x.size : Int) := by omega
    have c2 : (0 : Int) ≤ ((2 * i : Nat) : Int) := by omega
    have c3 : (0 : Int) ≤ ((2 * i : Nat) : Int) + 1 := by omega
    have c4 : ((2 * i : Nat) : Int) + 1 < (x.size : Int) := by omega
    obtain ⟨b0, b1⟩ := bt_range x ((2 * i : Nat) : Int)
    obtain ⟨q0, q1⟩ := bt_range x (((2 * i : Nat) : Int) + 1)
    obtain ⟨e1, l1, u1⟩ := value_val k (bt x ((2 * i : Nat) : Int)) b0 b1
    obtain ⟨e2, l2, u2⟩ := value_val k (bt x (((2 * i : Nat) : Int) + 1)) q0 q1
    rw [spec_Unhex.l0, impl_Unhex.l0, if_pos c1, if_pos c2, if_pos c1, if_pos c2, w64 (n := ((2 * i : Nat) : Int) + 1) (by omega) (by omega), e1, index_val, e2, index_val]
    simp only [Option.bind_some]
    rw [if_pos c3, if_pos c4, if_pos c3, if_pos c4]
    by_cases h1 : val (bt x ((2 * i : Nat) : Int)) < 0
    · rw [if_pos h1, if_pos h1]
      exact ⟨_, rfl, rfl⟩
    · rw [if_neg h1, if_neg h1]
      by_cases h2 : val (bt x (((2 * i : Nat) : Int) + 1)) < 0
      · rw [if_pos h2, if_pos h2]
        exact ⟨_, rfl, rfl⟩
      · rw [if_neg h2, if_neg h2, if_pos (by omega), if_pos (by omega), join _ _ (by omega) u1 (by omega) u2, w64 (n := ((2 * i : Nat) : Int) + 2) (by omega) (by omega), show ((2 * i : Nat) : Int) + 2 = ((2 * (i + 1) : Nat) : Int) by omega]
        exact ih (k + 1) (i + 1) _ (by omega) (by omega) (by simp; omega) (by omega)
theorem unhex_same (a : ByteArray) : ∃ r, spec_Unhex.f (a.size + 5) a = some r ∧ impl_Unhex.f (a.size + 5) a = some r := by
  unfold spec_Unhex.f impl_Unhex.f
  by_cases h1 : (a.size : Int) > 40000
  · rw [if_pos h1, decide_eq_true h1]
    split <;> exact ⟨_, rfl, rfl⟩
  · rw [if_neg h1, decide_eq_false h1]
    by_cases h2 : (a.size : Int) % 2 = 0
    · rw [if_pos h2, show (((a.size : Int) % 2) != 0) = false by simp [h2]]
      rw [spec_Unhex.j0, impl_Unhex.j0, if_neg (by decide), if_neg (by decide), w64 (n := (a.size : Int) / 2) (by omega) (by omega), if_pos (by omega), if_pos (by omega)]
      exact unhex_loop a (a.size / 2) (by omega) (by omega) (a.size / 2) (a.size + 4) 0 [] (by omega) (by omega) (by simp) (by omega)
    · rw [if_neg h2, show (((a.size : Int) % 2) != 0) = true by simp; omega]
      exact ⟨_, rfl, rfl⟩
theorem FnExactUnhex : laws_FnExactUnhex.Pure := by
  intro a _
  refine ⟨a.size + 5, ?_⟩
  obtain ⟨r, e, g⟩ := unhex_same a
  unfold laws_FnExactUnhex.f
  split
  · rfl
  · rw [e, g]
    simp
end Go.Proofs.Ytpeopmkgabfjbaa.Pure
