/- FnExactRootOf: the program's RootOf and the reference's agree, for every int. -/
import Derived.Test.YtpemfeobcbpjdaaPFnExactRootOfx1
namespace Go.Proofs.Ytpemfeobcbpjdaa.Pure
open Go.RowKit Go.Proofs.Ytpemfeobcbpjdaa.PFnExactRootOf Go.Proofs.YtpemfeobcbpjdaaW.PrintWords Go.Proofs.YtpemfeobcbpjdaaW.PrintLast

theorem w64 {n : Int} (h0 : -9223372036854775808 ≤ n) (h1 : n ≤ 9223372036854775807) : wrap64 n = n := by
  unfold wrap64
  omega

/-- What both answer. -/
structure IsRoot (n r : Int) : Prop where
  low : 0 ≤ r
  high : r ≤ 3037000499
  sq : r * r ≤ n ∨ r = 0
  next : r = 3037000499 ∨ n < (r + 1) * (r + 1)

theorem sq_mono {a b : Int} (h0 : 0 ≤ a) (h : a ≤ b) : a * a ≤ b * b := Int.mul_le_mul h h h0 (Int.le_trans h0 h)

theorem not_lt_root {n r s : Int} (hr : IsRoot n r) (hs : IsRoot n s) : ¬ r < s := by
  intro h
  have a := hr.low
  have b := hs.high
  rcases hr.next with e | e
  · omega
  · rcases hs.sq with q | q
    · have := sq_mono (a := r + 1) (b := s) (by omega) (by omega)
      omega
    · omega

theorem root_eq {n r s : Int} (hr : IsRoot n r) (hs : IsRoot n s) : r = s := by
  have := not_lt_root hr hs
  have := not_lt_root hs hr
  omega

theorem sq_fits {m : Int} (h0 : 0 ≤ m) (h1 : m ≤ 3037000499) : wrap64 (m * m) = m * m := by
  have a := sq_mono h0 h1
  have b : 0 ≤ m * m := Int.mul_nonneg h0 h0
  exact w64 (by omega) (by omega)

theorem spec_root (n : Int) (d : Nat) : ∀ (k : Nat) (lo hi : Int), 0 ≤ lo → lo < hi → hi ≤ 3037000500 → (hi - lo).toNat ≤ d → d < k →
    (lo * lo ≤ n ∨ lo = 0) → (hi = 3037000500 ∨ n < hi * hi) → ∃ r, spec_RootOf.l0 k n lo hi = some r ∧ IsRoot n r := by
  induction d with
  | zero => intro k lo hi _ _ _ _ _; omega
  | succ d ih =>
    intro k lo hi h0 hlt hh hd hk hq hn
    obtain ⟨k, rfl⟩ : ∃ m, k = m + 1 := ⟨k - 1, by omega⟩
    simp only [spec_RootOf.l0]
    rw [w64 (n := lo + 1) (by omega) (by omega), w64 (n := lo + hi) (by omega) (by omega), Int.tdiv_eq_ediv_of_nonneg (by omega), w64 (n := (lo + hi) / 2) (by omega) (by omega)]
    by_cases hc : lo + 1 < hi
    · rw [if_pos hc, if_pos (by omega), sq_fits (by omega) (by omega)]
      by_cases hm : (lo + hi) / 2 * ((lo + hi) / 2) ≤ n
      · rw [if_pos hm]
        exact ih k _ hi (by omega) (by omega) hh (by omega) (by omega) (.inl hm) hn
      · rw [if_neg hm]
        exact ih k lo _ h0 (by omega) (by omega) (by omega) (by omega) hq (.inr (by omega))
    · rw [if_neg hc]
      have e : hi = lo + 1 := by omega
      subst e
      refine ⟨lo, rfl, ⟨h0, by omega, hq, ?_⟩⟩
      rcases hn with hn | hn
      · exact .inl (by omega)
      · exact .inr hn

theorem impl_root (n : Int) (d : Nat) : ∀ (k : Nat) (lo hi : Int), 0 ≤ lo → lo ≤ hi → hi ≤ 3037000499 → (hi - lo).toNat ≤ d → d < k →
    (lo * lo ≤ n ∨ lo = 0) → (hi = 3037000499 ∨ n < (hi + 1) * (hi + 1)) → ∃ r, impl_RootOf.l0 k n lo hi = some r ∧ IsRoot n r := by
  induction d with
  | zero =>
    intro k lo hi h0 hlt hh hd hk hq hn
    obtain ⟨k, rfl⟩ : ∃ m, k = m + 1 := ⟨k - 1, by omega⟩
    simp only [impl_RootOf.l0]
    rw [if_neg (by omega)]
    have e : hi = lo := by omega
    subst e
    exact ⟨hi, rfl, ⟨h0, hh, hq, hn⟩⟩
  | succ d ih =>
    intro k lo hi h0 hlt hh hd hk hq hn
    obtain ⟨k, rfl⟩ : ∃ m, k = m + 1 := ⟨k - 1, by omega⟩
    simp only [impl_RootOf.l0]
    rw [w64 (n := lo + hi) (by omega) (by omega), w64 (n := lo + hi + 1) (by omega) (by omega), Int.tdiv_eq_ediv_of_nonneg (by omega), w64 (n := (lo + hi + 1) / 2) (by omega) (by omega)]
    by_cases hc : lo < hi
    · rw [if_pos hc, sq_fits (by omega) (by omega)]
      by_cases hm : (lo + hi + 1) / 2 * ((lo + hi + 1) / 2) ≤ n
      · rw [if_pos hm]
        exact ih k _ hi (by omega) (by omega) hh (by omega) (by omega) (.inl hm) hn
      · rw [if_neg hm, w64 (n := (lo + hi + 1) / 2 - 1) (by omega) (by omega)]
        refine ih k lo _ h0 (by omega) (by omega) (by omega) (by omega) hq (.inr ?_)
        rw [Int.sub_add_cancel]
        omega
    · rw [if_neg hc]
      have e : hi = lo := by omega
      subst e
      exact ⟨hi, rfl, ⟨h0, hh, hq, hn⟩⟩

theorem neg_root {n : Int} (h : n < 0) : IsRoot n 0 := ⟨by decide, by decide, .inr rfl, .inr (by omega)⟩

theorem spec_root_all (n : Int) : ∃ r, spec_RootOf.f 3037000501 n = some r ∧ IsRoot n r := by
  unfold spec_RootOf.f
  by_cases h : n < 0
  · rw [if_pos h]
    exact ⟨0, rfl, neg_root h⟩
  · rw [if_neg h]
    exact spec_root n 3037000500 _ 0 3037000500 (by omega) (by omega) (by omega) (by omega) (by omega) (.inr rfl) (.inl rfl)

theorem impl_root_all (n : Int) : ∃ r, impl_RootOf.f 3037000501 n = some r ∧ IsRoot n r :=
  impl_root n 3037000500 _ 0 3037000499 (by omega) (by omega) (by omega) (by omega) (by omega) (.inr rfl) (.inl rfl)

theorem FnExactRootOf : laws_FnExactRootOf.Pure := by
  intro n _
  refine ⟨3037000501, ?_⟩
  obtain ⟨r, h, hr⟩ := spec_root_all n
  obtain ⟨s, g, hs⟩ := impl_root_all n
  obtain rfl := root_eq hr hs
  unfold laws_FnExactRootOf.f
  rw [h, g]
  simp

end Go.Proofs.Ytpemfeobcbpjdaa.Pure
