/- FnExactHex: the program's Hex and the reference's agree, for every text. -/
import Derived.Test.YtpeopmkgabfjbaaQFnExactHexx0
import Derived.Test.YtpeopmkgabfjbaaQFnExactHexx1
import Derived.Test.YtpeopmkgabfjbaaPlain
namespace Go.Proofs.Ytpeopmkgabfjbaa.Pure
open Go.RowKit Go.Proofs.Ytpeopmkgabfjbaa.PFnExactHex Go.Proofs.Ytpeopmkgabfjbaa.Plain Go.Proofs.YtpeopmkgabfjbaaW.PrintWords Go.Proofs.YtpeopmkgabfjbaaW.PrintLast

abbrev HX : ByteArray := ⟨#[48, 49, 50, 51, 52, 53, 54, 55, 56, 57, 97, 98, 99, 100, 101, 102]⟩
theorem hex_pair (c : Int) (h0 : 0 ≤ c) (h1 : c ≤ 255) : spec_l01Figure.f (wrap64 (Int.tdiv (wrap64 c) 16)) = some (bt HX (c / 16)) ∧ spec_l01Figure.f (Int.tmod (wrap64 c) 16) = some (bt HX (Go.bits .and .u8 c 15))
    ∧ 0 ≤ c / 16 ∧ c / 16 < (HX.size : Int) ∧ 0 ≤ Go.bits .and .u8 c 15 ∧ Go.bits .and .u8 c 15 < (HX.size : Int) := by
  obtain ⟨n, rfl⟩ := Int.eq_ofNat_of_zero_le h0
  have hn : n < 256 := by omega
  clear h0 h1
  revert n
  decide +kernel
theorem hex_loop (x : ByteArray) (hx : x.size ≤ 20000) (d : Nat) : ∀ (k i : Nat) (acc : List Int), x.size - i = d → i ≤ x.size → acc.length ≤ 2 * i → d < k →
    ∃ r, spec_Hex.l0 k x acc (i : Int) = some r ∧ impl_Hex.l0 k x HX acc (i : Int) = some r := by
  induction d with
  | zero =>
    intro k i acc hd hi ha hk
    obtain ⟨k, rfl⟩ : ∃ m, k = m + 1 := ⟨k - 1, by omega⟩
    simp only [spec_Hex.l0, impl_Hex.l0]
    rw [if_neg (by omega), if_neg (by omega)]
    exact ⟨_, rfl, rfl⟩
  | succ d ih =>
    intro k i acc hd hi ha hk
    obtain ⟨k, rfl⟩ : ∃ m, k = m + 1 := ⟨k - 1, by omega⟩
    obtain ⟨b0, b1⟩ := bt_range x (i : Int)
    obtain ⟨e1, e2, g1, g2, g3, g4⟩ := hex_pair (bt x (i : Int)) b0 b1
    simp only [spec_Hex.l0, impl_Hex.l0]
    have c1 : (i : Int) < (x.size : Int) := by omega
    have c2 : (0 : Int) ≤ (i : Int) := by omega
    rw [if_pos c1, if_pos c2, if_pos c1, if_pos c2, e1, e2]
    simp only [Option.bind_some, List.length_cons, List.length_nil]
    rw [if_pos (by omega), if_pos g1, if_pos g2, if_pos g3, if_pos g4, if_pos (by omega), w64 (n := (i : Int) + 1) (by omega) (by omega), show (i : Int) + 1 = ((i + 1 : Nat) : Int) by omega]
    exact ih k (i + 1) _ (by omega) (by omega) (by simp; omega) (by omega)
theorem FnExactHex : laws_FnExactHex.Pure := by
  intro a _
  refine ⟨a.size + 1, ?_⟩
  unfold laws_FnExactHex.f spec_Hex.f impl_Hex.f
  split
  · rfl
  · split
    · simp
    · rename_i h
      rw [w64 (n := 2 * (a.size : Int)) (by omega) (by omega), if_pos (by omega), if_pos (by omega)]
      obtain ⟨r, e, g⟩ := hex_loop a (by omega) a.size (a.size + 1) 0 [] (by omega) (by omega) (by simp) (by omega)
      have e : spec_Hex.l0 (a.size + 1) a [] 0 = some r := e
      have g : impl_Hex.l0 (a.size + 1) a HX [] 0 = some r := g
      rw [e, g]
      simp
end Go.Proofs.Ytpeopmkgabfjbaa.Pure
