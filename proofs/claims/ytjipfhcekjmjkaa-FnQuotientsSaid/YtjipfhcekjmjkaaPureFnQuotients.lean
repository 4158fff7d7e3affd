/- FnQuotients: a drawn quotient down is the greatest that fits, one to the nearest is at most a half away, a root's square is not above; for every code. -/
import Derived.Test.YtjipfhcekjmjkaaQFnQuotientsx1
import Derived.Test.YtjipfhcekjmjkaaQFnQuotientsx2
import Derived.Test.YtjipfhcekjmjkaaPlain
namespace Go.Proofs.Ytjipfhcekjmjkaa.Pure
open Go.RowKit Go.Proofs.Ytjipfhcekjmjkaa.PFnQuotients Go.Proofs.Ytjipfhcekjmjkaa.Plain Go.Proofs.YtjipfhcekjmjkaaW.PrintWords Go.Proofs.YtjipfhcekjmjkaaW.PrintLast

theorem impl_floor {a b : Int} (hb : 0 < b) (h0 : -4611686018427387904 ≤ a) (h1 : a ≤ 4611686018427387904) : impl_FloorDiv.f a b = some (a / b) := by
  unfold impl_FloorDiv.f
  exact floor_text hb h0 h1

theorem impl_round {a b : Int} (hb : 0 < b) (hb1 : b ≤ 4611686018427387904) (h0 : -4611686018427387904 ≤ a) (h1 : a ≤ 4611686018427387904) : impl_RoundDiv.f a b = some (rdiv a b) := by
  unfold impl_RoundDiv.f
  rw [if_neg (by omega), impl_floor hb h0 h1]
  simp only [Option.bind_some]
  exact round_text hb hb1 h0 h1

/-- What both answer. -/
structure IsRoot (n r : Int) : Prop where
  low : 0 ≤ r
  high : r ≤ 3037000499
  sq : r * r ≤ n ∨ r = 0
  next : r = 3037000499 ∨ n < (r + 1) * (r + 1)

theorem not_lt_root {n r s : Int} (hr : IsRoot n r) (hs : IsRoot n s) : ¬ r < s := by
  intro h
  have a := hr.low
  have b := hs.high
  rcases hr.next with e | e
  · omega
  · rcases hs.sq with q | q
    · have := sq_mono (a := r + 1) (b := s) (by omega) (by omega)
      omega
    · omega

theorem root_eq {n r s : Int} (hr : IsRoot n r) (hs : IsRoot n s) : r = s := by
  have := not_lt_root hr hs
  have := not_lt_root hs hr
  omega

theorem sq_fits {m : Int} (h0 : 0 ≤ m) (h1 : m ≤ 3037000499) : wrap64 (m * m) = m * m := by
  have a := sq_mono h0 h1
  have b : 0 ≤ m * m := Int.mul_nonneg h0 h0
  exact w64 (by omega) (by omega)

theorem impl_root (n : Int) (d : Nat) : ∀ (k : Nat) (lo hi : Int), 0 ≤ lo → lo ≤ hi → hi ≤ 3037000499 → (hi - lo).toNat ≤ d → d < k →
    (lo * lo ≤ n ∨ lo = 0) → (hi = 3037000499 ∨ n < (hi + 1) * (hi + 1)) → ∃ r, impl_RootOf.l0 k n lo hi = some r ∧ IsRoot n r := by
  induction d with
  | zero =>
    intro k lo hi h0 hlt hh hd hk hq hn
    obtain ⟨k, rfl⟩ : ∃ m, k = m + 1 := ⟨k - 1, by omega⟩
    simp only [impl_RootOf.l0]
    rw [if_neg (by omega)]
    have e : hi = lo := by omega
    subst e
    exact ⟨hi, rfl, ⟨h0, hh, hq, hn⟩⟩
  | succ d ih =>
    intro k lo hi h0 hlt hh hd hk hq hn
    obtain ⟨k, rfl⟩ : ∃ m, k = m + 1 := ⟨k - 1, by omega⟩
    simp only [impl_RootOf.l0]
    rw [w64 (n := lo + hi) (by omega) (by omega), w64 (n := lo + hi + 1) (by omega) (by omega), Int.tdiv_eq_ediv_of_nonneg (by omega), w64 (n := (lo + hi + 1) / 2) (by omega) (by omega)]
    by_cases hc : lo < hi
    · rw [if_pos hc, sq_fits (by omega) (by omega)]
      by_cases hm : (lo + hi + 1) / 2 * ((lo + hi + 1) / 2) ≤ n
      · rw [if_pos hm]
        exact ih k _ hi (by omega) (by omega) hh (by omega) (by omega) (.inl hm) hn
      · rw [if_neg hm, w64 (n := (lo + hi + 1) / 2 - 1) (by omega) (by omega)]
        refine ih k lo _ h0 (by omega) (by omega) (by omega) (by omega) hq (.inr ?_)
        rw [Int.sub_add_cancel]
        omega
    · rw [if_neg hc]
      have e : hi = lo := by omega
      subst e
      exact ⟨hi, rfl, ⟨h0, hh, hq, hn⟩⟩

theorem impl_root_all (n : Int) (k : Nat) (hk : 3037000500 < k) : ∃ r, impl_RootOf.f k n = some r ∧ IsRoot n r :=
  impl_root n 3037000500 k 0 3037000499 (by omega) (by omega) (by omega) (by omega) hk (.inr rfl) (.inl rfl)

/-- A draw of one byte, wherever the reader stands. -/
theorem draw_byte (l : List Int) (hl : l.length ≤ 140737488355328) (i h : Int) (h0 : 0 ≤ i) (h1 : i ≤ l.length) :
    ∃ x i' h' : Int, spec_l01Byte.f l i h = some (x, i', h') ∧ 0 ≤ x ∧ x < 256 ∧ 0 ≤ i' ∧ i' ≤ l.length := by
  unfold spec_l01Byte.f
  by_cases hlt : i < (l.length : Int)
  · rw [if_pos hlt, if_pos h0, w64 (n := i + 1) (by omega) (by omega)]
    exact ⟨_, _, _, rfl, (and255 _).1, (and255 _).2, by omega, by omega⟩
  · rw [if_neg hlt]
    exact ⟨_, _, _, rfl, (and255 _).1, (and255 _).2, h0, h1⟩

/-- A drawn number below n. -/
theorem draw_below (l : List Int) (hl : l.length ≤ 140737488355328) (i h : Int) (h0 : 0 ≤ i) (h1 : i ≤ l.length) (n : Int) (hn : 0 < n) :
    ∃ x i' h' : Int, spec_l01Below.f l i h n = some (x, i', h') ∧ 0 ≤ x ∧ x < n ∧ 0 ≤ i' ∧ i' ≤ l.length := by
  unfold spec_l01Below.f
  obtain ⟨x, i1, g1, e1, a1, b1, c1, d1⟩ := draw_byte l hl i h h0 h1
  rw [if_neg (by omega)]
  by_cases hs : n ≤ 256
  · rw [if_pos hs, e1]
    simp only [Option.bind_some]
    rw [if_neg (by omega), tmod_pos a1]
    exact ⟨_, _, _, rfl, Int.emod_nonneg _ (by omega), Int.emod_lt_of_pos _ hn, c1, d1⟩
  · obtain ⟨y, i2, g2, e2, a2, b2, c2, d2⟩ := draw_byte l hl i1 g1 c1 d1
    obtain ⟨z, i3, g3, e3, a3, b3, c3, d3⟩ := draw_byte l hl i2 g2 c2 d2
    obtain ⟨w, i4, g4, e4, a4, b4, c4, d4⟩ := draw_byte l hl i3 g3 c3 d3
    rw [if_neg hs, e1]
    simp only [Option.bind_some, e2, e3, e4]
    rw [w64 (n := x * 16777216) (by omega) (by omega), w64 (n := y * 65536) (by omega) (by omega), w64 (n := z * 256) (by omega) (by omega), w64 (n := x * 16777216 + y * 65536) (by omega) (by omega),
      w64 (n := x * 16777216 + y * 65536 + z * 256) (by omega) (by omega), w64 (n := x * 16777216 + y * 65536 + z * 256 + w) (by omega) (by omega), if_neg (by omega), tmod_pos (by omega)]
    exact ⟨_, _, _, rfl, Int.emod_nonneg _ (by omega), Int.emod_lt_of_pos _ hn, c4, d4⟩

theorem draw_new_loop (l : List Int) (hl : l.length ≤ 140737488355328) (d : Nat) : ∀ (k : Nat) (h i : Int), 0 ≤ i → i ≤ l.length → (l.length : Int) - i = d → d < k → ∃ h' : Int, spec_l01New.l0 k l h i = some (l, 0, h') := by
  induction d with
  | zero =>
    intro k h i h0 h1 hd hk
    obtain ⟨k, rfl⟩ : ∃ m, k = m + 1 := ⟨k - 1, by omega⟩
    simp only [spec_l01New.l0]
    rw [if_neg (by omega)]
    exact ⟨_, rfl⟩
  | succ d ih =>
    intro k h i h0 h1 hd hk
    obtain ⟨k, rfl⟩ : ∃ m, k = m + 1 := ⟨k - 1, by omega⟩
    simp only [spec_l01New.l0]
    have hlt : i < (l.length : Int) := by omega
    rw [if_pos hlt]
    by_cases h4 : i < 4000
    · rw [if_pos h4, if_pos h0, w64 (n := i + 1) (by omega) (by omega)]
      exact ih k _ (i + 1) (by omega) (by omega) (by omega) (by omega)
    · rw [if_neg h4]
      exact ⟨_, rfl⟩

theorem draw_new (l : List Int) (hl : l.length ≤ 140737488355328) (k : Nat) (hk : l.length < k) : ∃ h : Int, spec_l01New.f k l = some (l, 0, h) := by
  unfold spec_l01New.f
  exact draw_new_loop l hl l.length k _ 0 (by omega) (by omega) (by omega) hk

theorem draw_places_loop (l : List Int) (hl : l.length ≤ 140737488355328) (d : Nat) : ∀ (k : Nat) (acc : List Int) (j i h : Int), 0 ≤ i → i ≤ l.length → 12 - j = d → (acc.length : Int) = j → (∀ x ∈ acc, 0 ≤ x ∧ x < 10000) → d < k →
    ∃ r : List Int, spec_DrawPlaces.l0 k acc j l i h = some r ∧ r.length = 12 ∧ ∀ x ∈ r, 0 ≤ x ∧ x < 10000 := by
  induction d with
  | zero =>
    intro k acc j i h h0 h1 hd hj hx hk
    obtain ⟨k, rfl⟩ : ∃ m, k = m + 1 := ⟨k - 1, by omega⟩
    simp only [spec_DrawPlaces.l0]
    rw [if_neg (by omega)]
    exact ⟨acc, rfl, by omega, hx⟩
  | succ d ih =>
    intro k acc j i h h0 h1 hd hj hx hk
    obtain ⟨k, rfl⟩ : ∃ m, k = m + 1 := ⟨k - 1, by omega⟩
    simp only [spec_DrawPlaces.l0]
    obtain ⟨x, i', h', e, a, b, c, dd⟩ := draw_below l hl i h h0 h1 10000 (by omega)
    rw [if_pos (by omega), e]
    simp only [Option.bind_some]
    rw [if_pos (by omega), w64 (n := j + 1) (by omega) (by omega)]
    refine ih k _ (j + 1) i' h' c dd (by omega) (by simp only [List.length_append, List.length_cons, List.length_nil]; omega) (fun y hy => ?_) (by omega)
    rcases List.mem_append.1 hy with hy | hy
    · exact hx y hy
    · simp only [List.mem_singleton] at hy
      subst hy
      exact ⟨a, b⟩

theorem draw_places (l : List Int) (hl : l.length ≤ 140737488355328) (k : Nat) (hk : l.length + 13 < k) : ∃ r : List Int, spec_DrawPlaces.f k l = some r ∧ r.length = 12 ∧ ∀ j : Nat, j < 12 → 0 ≤ rd r j ∧ rd r j < 10000 := by
  unfold spec_DrawPlaces.f
  obtain ⟨h, e⟩ := draw_new l hl k (by omega)
  obtain ⟨x, i', h', e', a, b, c, d⟩ := draw_byte l hl 0 h (by omega) (by omega)
  rw [e]
  simp only [Option.bind_some, e']
  obtain ⟨r, er, hr, hx⟩ := draw_places_loop l hl 12 k [] 0 i' h' c d (by omega) rfl (fun y hy => by simp at hy) (by omega)
  refine ⟨r, er, hr, fun j hj => ?_⟩
  have hm : rd r j ∈ r := by
    unfold rd
    rw [show ((j : Int)).toNat = j by omega, List.getD_eq_getElem?_getD, List.getElem?_eq_getElem (by omega)]
    exact List.getElem_mem _
  exact hx _ hm

theorem abs_text (x : Int) (h0 : -4611686018427387904 ≤ x) (h1 : x ≤ 4611686018427387904) : laws_abs.f x = some (if x < 0 then -x else x) := by
  unfold laws_abs.f
  rw [w64 (n := -x) (by omega) (by omega)]
  split <;> rfl

theorem floor_zero (a : Int) : impl_FloorDiv.f a 0 = some 0 := by
  unfold impl_FloorDiv.f
  rw [if_pos (by omega)]

/-- The quotient's facts. -/
theorem quot_facts (a b : Int) (hb : 0 < b) : a / b * b = a - a % b ∧ (a / b + 1) * b = a - a % b + b ∧ 0 ≤ a % b ∧ a % b < b := by
  have e := Int.mul_ediv_add_emod a b
  have h2 := Int.emod_nonneg a (show b ≠ 0 by omega)
  have h3 := Int.emod_lt_of_pos a hb
  rw [Int.mul_comm] at e
  rw [Int.add_mul, Int.one_mul]
  omega

theorem near_facts (a b : Int) (hb : 0 < b) : ∃ m : Int, rdiv a b * b = a - m ∧ 2 * m < b ∧ (-b ≤ 2 * m) := by
  have ⟨h1, h2, h3, h4⟩ := quot_facts a b hb
  unfold rdiv
  split
  · exact ⟨a % b - b, by omega, by omega, by omega⟩
  · exact ⟨a % b, by omega, by omega, by omega⟩

/-- The law's last rows, where nothing wraps. -/
theorem FnQuotients : laws_FnQuotients.Pure := by
  intro l _ hl _
  refine ⟨l.length + 3037000520, ?_⟩
  unfold laws_FnQuotients.f laws_big.f
  rw [Option.bind_some]
  by_cases hbig : decide ((l.length : Int) > 1048576) = true
  · rw [if_pos hbig]
  · rw [if_neg hbig]
    clear hbig
    obtain ⟨p, e, hr, hx⟩ := draw_places l (by omega) (l.length + 3037000520) (by omega)
    rw [e]
    have x0 : 0 ≤ rd p 0 ∧ rd p 0 < 10000 := hx 0 (by omega)
    have x1 : 0 ≤ rd p 1 ∧ rd p 1 < 10000 := hx 1 (by omega)
    have x2 : 0 ≤ rd p 2 ∧ rd p 2 < 10000 := hx 2 (by omega)
    have x3 : 0 ≤ rd p 3 ∧ rd p 3 < 10000 := hx 3 (by omega)
    have x4 : 0 ≤ rd p 4 ∧ rd p 4 < 10000 := hx 4 (by omega)
    have x5 : 0 ≤ rd p 5 ∧ rd p 5 < 10000 := hx 5 (by omega)
    have x6 : 0 ≤ rd p 6 ∧ rd p 6 < 10000 := hx 6 (by omega)
    have q0 : (0 : Int) < (p.length : Int) := by omega
    have q1 : (1 : Int) < (p.length : Int) := by omega
    have q2 : (2 : Int) < (p.length : Int) := by omega
    have q3 : (3 : Int) < (p.length : Int) := by omega
    have q4 : (4 : Int) < (p.length : Int) := by omega
    have q5 : (5 : Int) < (p.length : Int) := by omega
    have q6 : (6 : Int) < (p.length : Int) := by omega
    simp only [Option.bind_some, if_pos q0, if_pos q1, if_pos q2, if_pos q3, if_pos q4, if_pos q5, if_pos q6]
    clear q0 q1 q2 q3 q4 q5 q6 hx e
    generalize rd p 0 = p0 at *
    generalize rd p 1 = p1 at *
    generalize rd p 2 = p2 at *
    generalize rd p 3 = p3 at *
    generalize rd p 4 = p4 at *
    generalize rd p 5 = p5 at *
    generalize rd p 6 = p6 at *
    have m01 : 0 ≤ p0 * p1 ∧ p0 * p1 ≤ 10000 * 10000 := ⟨Int.mul_nonneg x0.1 x1.1, Int.mul_le_mul (by omega) (by omega) x1.1 (by omega)⟩
    have m23 : 0 ≤ p2 * p3 ∧ p2 * p3 ≤ 10000 * 10000 := ⟨Int.mul_nonneg x2.1 x3.1, Int.mul_le_mul (by omega) (by omega) x3.1 (by omega)⟩
    have m56 : 0 ≤ p5 * p6 ∧ p5 * p6 ≤ 10000 * 10000 := ⟨Int.mul_nonneg x5.1 x6.1, Int.mul_le_mul (by omega) (by omega) x6.1 (by omega)⟩
    rw [tmod_pos x4.1]
    have hb : 1 ≤ 1 + p4 % 300 ∧ 1 + p4 % 300 ≤ 300 := by omega
    generalize p0 * p1 = m at *
    generalize p2 * p3 = m' at *
    generalize p5 * p6 = n at *
    rw [w64 (n := m) (by omega) (by omega), w64 (n := m') (by omega) (by omega), w64 (n := m - m') (by omega) (by omega), w64 (n := n) (by omega) (by omega), w64 (n := 1 + p4 % 300) (by omega) (by omega)]
    generalize 1 + p4 % 300 = b at *
    have ha : -100000000 ≤ m - m' ∧ m - m' ≤ 100000000 := by omega
    generalize m - m' = a at *
    clear m01 m23 x0 x1 x2 x3 x4 x5 x6 hr p0 p1 p2 p3 p4 p5 p6 m m' p
    rw [impl_floor (by omega) (by omega) (by omega), impl_round (by omega) (by omega) (by omega) (by omega), floor_zero]
    obtain ⟨s, es, hs⟩ := impl_root_all n (l.length + 3037000520) (by omega)
    obtain ⟨s', es', hs'⟩ := impl_root_all (s * s) (l.length + 3037000520) (by omega)
    have e7 : impl_RoundDiv.f (-7) 2 = some (-3) := by
      rw [impl_round (by omega) (by omega) (by omega) (by omega)]
      rfl
    have hs0 := hs.low
    have hsq : s * s ≤ n := by
      rcases hs.sq with h | h
      · exact h
      · subst h; omega
    have hs1 : s ≤ 100000 := by
      rcases Int.lt_or_le 100000 s with h | h
      · have := sq_mono (a := 100000) (b := s) (by omega) (by omega)
        omega
      · exact h
    have hsn : n < (s + 1) * (s + 1) := by
      rcases hs.next with h | h
      · omega
      · exact h
    have hs2 : (s + 1) * (s + 1) = s * s + 2 * s + 1 := by
      rw [Int.add_mul, Int.mul_add]
      omega
    have hss0 : 0 ≤ s * s := Int.mul_nonneg hs0 hs0
    have hroot : s' = s := root_eq hs' ⟨hs0, by omega, .inl (Int.le_refl _), .inr (by omega)⟩
    subst hroot
    have ⟨f1, f2, f3, f4⟩ := quot_facts a b (by omega)
    obtain ⟨d, g1, g2, g3⟩ := near_facts a b (by omega)
    have hq := ediv_bounds (a := a) (b := b) (by omega) (m := 100000000) (by omega) (by omega) (by omega)
    have w1 : wrap64 (a / b + 1) = a / b + 1 := w64 (by omega) (by omega)
    have w2 : wrap64 (s' + 1) = s' + 1 := w64 (by omega) (by omega)
    have w3 : wrap64 (a - a % b) = a - a % b := w64 (by omega) (by omega)
    have w4 : wrap64 (a - a % b + b) = a - a % b + b := w64 (by omega) (by omega)
    have w5 : wrap64 (a - d) = a - d := w64 (by omega) (by omega)
    have w6 : wrap64 (a - (a - d)) = d := by rw [w64 (by omega) (by omega)]; omega
    have w7 : wrap64 (a - d - a) = -d := by rw [w64 (by omega) (by omega)]; omega
    have w8 : wrap64 (2 * -d) = -(2 * d) := by rw [w64 (by omega) (by omega)]; omega
    have w9 : wrap64 (s' * s') = s' * s' := w64 (by omega) (by omega)
    have w10 : wrap64 ((s' + 1) * (s' + 1)) = (s' + 1) * (s' + 1) := w64 (by omega) (by omega)
    simp only [Option.bind_some, es, w1, w2, f1, f2, g1, w3, w4, w5, w6, w7, w8, w9, w10, abs_text d (by omega) (by omega), es', e7]
    clear w1 w2 w3 w4 w5 w6 w7 w8 w9 w10 es es' e7 f1 f2 g1 hs hs'
    have c1 : a - a % b ≤ a := by omega
    have c2 : a < a - a % b + b := by omega
    have c3 : wrap64 (2 * (if d < 0 then -d else d)) = (if d < 0 then -(2 * d) else 2 * d) := by
      split
      · rw [w64 (by omega) (by omega)]; omega
      · exact w64 (by omega) (by omega)
    have c4 : (if d < 0 then -(2 * d) else 2 * d) ≤ b := by split <;> omega
    have c5 : -(2 * d) ≤ b := by omega
    rw [c3]
    clear c3
    simp only [if_pos c1, if_pos c2, if_pos c4, if_pos c5, if_pos hsq, if_pos hsn, if_true]
    by_cases k1 : (if d < 0 then -(2 * d) else 2 * d) < b
    · rw [if_pos k1]
      rfl
    · rw [if_neg k1]
      have k2 : a - d > a := by
        split at k1 <;> omega
      rw [if_pos k2]
      rfl
end Go.Proofs.Ytjipfhcekjmjkaa.Pure
