/- FnBetween: a number taken between two is within; parts of 255 are not above either, and the whole of one is it; for every code. -/
import Derived.Test.YtjipfhcekjmjkaaQFnBetweenx1
import Derived.Test.YtjipfhcekjmjkaaQFnBetweenx2
import Derived.Test.YtjipfhcekjmjkaaPlain
namespace Go.Proofs.Ytjipfhcekjmjkaa.Pure
open Go.RowKit Go.Proofs.Ytjipfhcekjmjkaa.PFnBetween Go.Proofs.Ytjipfhcekjmjkaa.Plain Go.Proofs.YtjipfhcekjmjkaaW.PrintWords Go.Proofs.YtjipfhcekjmjkaaW.PrintLast

theorem spec_floor {a b : Int} (hb : 0 < b) (h0 : -4611686018427387904 ≤ a) (h1 : a ≤ 4611686018427387904) : spec_FloorDiv.f a b = some (a / b) := by
  unfold spec_FloorDiv.f
  exact floor_text hb h0 h1

theorem spec_round {a b : Int} (hb : 0 < b) (hb1 : b ≤ 4611686018427387904) (h0 : -4611686018427387904 ≤ a) (h1 : a ≤ 4611686018427387904) : spec_RoundDiv.f a b = some (rdiv a b) := by
  unfold spec_RoundDiv.f
  rw [if_neg (by omega), spec_floor hb h0 h1]
  simp only [Option.bind_some]
  exact round_text hb hb1 h0 h1

theorem spec_clamp (x lo hi : Int) : spec_Clamp.f x lo hi = some (clampI x lo hi) := by
  unfold spec_Clamp.f
  exact clampI_text x lo hi

theorem spec_times (a b : Int) : spec_Times255.f a b = some (rdiv (clampI a 0 255 * clampI b 0 255) 255) := by
  unfold spec_Times255.f
  rw [spec_clamp, spec_clamp]
  simp only [Option.bind_some]
  have ha := clampI_in (x := a) (lo := 0) (hi := 255) (by omega)
  have hb := clampI_in (x := b) (lo := 0) (hi := 255) (by omega)
  have h0 : 0 ≤ clampI a 0 255 * clampI b 0 255 := Int.mul_nonneg ha.1 hb.1
  have h1 : clampI a 0 255 * clampI b 0 255 ≤ 255 * 255 := Int.mul_le_mul ha.2 hb.2 hb.1 (by omega)
  rw [w64 (by omega) (by omega), spec_round (by omega) (by omega) (by omega) (by omega)]
  rfl

theorem impl_floor {a b : Int} (hb : 0 < b) (h0 : -4611686018427387904 ≤ a) (h1 : a ≤ 4611686018427387904) : impl_FloorDiv.f a b = some (a / b) := by
  unfold impl_FloorDiv.f
  exact floor_text hb h0 h1

theorem impl_round {a b : Int} (hb : 0 < b) (hb1 : b ≤ 4611686018427387904) (h0 : -4611686018427387904 ≤ a) (h1 : a ≤ 4611686018427387904) : impl_RoundDiv.f a b = some (rdiv a b) := by
  unfold impl_RoundDiv.f
  rw [if_neg (by omega), impl_floor hb h0 h1]
  simp only [Option.bind_some]
  exact round_text hb hb1 h0 h1

theorem impl_clamp (x lo hi : Int) : impl_Clamp.f x lo hi = some (clampI x lo hi) := by
  unfold impl_Clamp.f
  exact clampI_text x lo hi

theorem impl_times (a b : Int) : impl_Times255.f a b = some (rdiv (clampI a 0 255 * clampI b 0 255) 255) := by
  unfold impl_Times255.f
  rw [impl_clamp, impl_clamp]
  simp only [Option.bind_some]
  have ha := clampI_in (x := a) (lo := 0) (hi := 255) (by omega)
  have hb := clampI_in (x := b) (lo := 0) (hi := 255) (by omega)
  have h0 : 0 ≤ clampI a 0 255 * clampI b 0 255 := Int.mul_nonneg ha.1 hb.1
  have h1 : clampI a 0 255 * clampI b 0 255 ≤ 255 * 255 := Int.mul_le_mul ha.2 hb.2 hb.1 (by omega)
  rw [w64 (by omega) (by omega), impl_round (by omega) (by omega) (by omega) (by omega)]
  rfl

/-- A draw of one byte, wherever the reader stands. -/
theorem draw_byte (l : List Int) (hl : l.length ≤ 140737488355328) (i h : Int) (h0 : 0 ≤ i) (h1 : i ≤ l.length) :
    ∃ x i' h' : Int, spec_l01Byte.f l i h = some (x, i', h') ∧ 0 ≤ x ∧ x < 256 ∧ 0 ≤ i' ∧ i' ≤ l.length := by
  unfold spec_l01Byte.f
  by_cases hlt : i < (l.length : Int)
  · rw [if_pos hlt, if_pos h0, w64 (n := i + 1) (by omega) (by omega)]
    exact ⟨_, _, _, rfl, (and255 _).1, (and255 _).2, by omega, by omega⟩
  · rw [if_neg hlt]
    exact ⟨_, _, _, rfl, (and255 _).1, (and255 _).2, h0, h1⟩

/-- A drawn number below n. -/
theorem draw_below (l : List Int) (hl : l.length ≤ 140737488355328) (i h : Int) (h0 : 0 ≤ i) (h1 : i ≤ l.length) (n : Int) (hn : 0 < n) :
    ∃ x i' h' : Int, spec_l01Below.f l i h n = some (x, i', h') ∧ 0 ≤ x ∧ x < n ∧ 0 ≤ i' ∧ i' ≤ l.length := by
  unfold spec_l01Below.f
  obtain ⟨x, i1, g1, e1, a1, b1, c1, d1⟩ := draw_byte l hl i h h0 h1
  rw [if_neg (by omega)]
  by_cases hs : n ≤ 256
  · rw [if_pos hs, e1]
    simp only [Option.bind_some]
    rw [if_neg (by omega), tmod_pos a1]
    exact ⟨_, _, _, rfl, Int.emod_nonneg _ (by omega), Int.emod_lt_of_pos _ hn, c1, d1⟩
  · obtain ⟨y, i2, g2, e2, a2, b2, c2, d2⟩ := draw_byte l hl i1 g1 c1 d1
    obtain ⟨z, i3, g3, e3, a3, b3, c3, d3⟩ := draw_byte l hl i2 g2 c2 d2
    obtain ⟨w, i4, g4, e4, a4, b4, c4, d4⟩ := draw_byte l hl i3 g3 c3 d3
    rw [if_neg hs, e1]
    simp only [Option.bind_some, e2, e3, e4]
    rw [w64 (n := x * 16777216) (by omega) (by omega), w64 (n := y * 65536) (by omega) (by omega), w64 (n := z * 256) (by omega) (by omega), w64 (n := x * 16777216 + y * 65536) (by omega) (by omega),
      w64 (n := x * 16777216 + y * 65536 + z * 256) (by omega) (by omega), w64 (n := x * 16777216 + y * 65536 + z * 256 + w) (by omega) (by omega), if_neg (by omega), tmod_pos (by omega)]
    exact ⟨_, _, _, rfl, Int.emod_nonneg _ (by omega), Int.emod_lt_of_pos _ hn, c4, d4⟩

theorem draw_new_loop (l : List Int) (hl : l.length ≤ 140737488355328) (d : Nat) : ∀ (k : Nat) (h i : Int), 0 ≤ i → i ≤ l.length → (l.length : Int) - i = d → d < k → ∃ h' : Int, spec_l01New.l0 k l h i = some (l, 0, h') := by
  induction d with
  | zero =>
    intro k h i h0 h1 hd hk
    obtain ⟨k, rfl⟩ : ∃ m, k = m + 1 := ⟨k - 1, by omega⟩
    simp only [spec_l01New.l0]
    rw [if_neg (by omega)]
    exact ⟨_, rfl⟩
  | succ d ih =>
    intro k h i h0 h1 hd hk
    obtain ⟨k, rfl⟩ : ∃ m, k = m + 1 := ⟨k - 1, by omega⟩
    simp only [spec_l01New.l0]
    have hlt : i < (l.length : Int) := by omega
    rw [if_pos hlt]
    by_cases h4 : i < 4000
    · rw [if_pos h4, if_pos h0, w64 (n := i + 1) (by omega) (by omega)]
      exact ih k _ (i + 1) (by omega) (by omega) (by omega) (by omega)
    · rw [if_neg h4]
      exact ⟨_, rfl⟩

theorem draw_new (l : List Int) (hl : l.length ≤ 140737488355328) (k : Nat) (hk : l.length < k) : ∃ h : Int, spec_l01New.f k l = some (l, 0, h) := by
  unfold spec_l01New.f
  exact draw_new_loop l hl l.length k _ 0 (by omega) (by omega) (by omega) hk

theorem draw_places_loop (l : List Int) (hl : l.length ≤ 140737488355328) (d : Nat) : ∀ (k : Nat) (acc : List Int) (j i h : Int), 0 ≤ i → i ≤ l.length → 12 - j = d → (acc.length : Int) = j → (∀ x ∈ acc, 0 ≤ x ∧ x < 10000) → d < k →
    ∃ r : List Int, spec_DrawPlaces.l0 k acc j l i h = some r ∧ r.length = 12 ∧ ∀ x ∈ r, 0 ≤ x ∧ x < 10000 := by
  induction d with
  | zero =>
    intro k acc j i h h0 h1 hd hj hx hk
    obtain ⟨k, rfl⟩ : ∃ m, k = m + 1 := ⟨k - 1, by omega⟩
    simp only [spec_DrawPlaces.l0]
    rw [if_neg (by omega)]
    exact ⟨acc, rfl, by omega, hx⟩
  | succ d ih =>
    intro k acc j i h h0 h1 hd hj hx hk
    obtain ⟨k, rfl⟩ : ∃ m, k = m + 1 := ⟨k - 1, by omega⟩
    simp only [spec_DrawPlaces.l0]
    obtain ⟨x, i', h', e, a, b, c, dd⟩ := draw_below l hl i h h0 h1 10000 (by omega)
    rw [if_pos (by omega), e]
    simp only [Option.bind_some]
    rw [if_pos (by omega), w64 (n := j + 1) (by omega) (by omega)]
    refine ih k _ (j + 1) i' h' c dd (by omega) (by simp only [List.length_append, List.length_cons, List.length_nil]; omega) (fun y hy => ?_) (by omega)
    rcases List.mem_append.1 hy with hy | hy
    · exact hx y hy
    · simp only [List.mem_singleton] at hy
      subst hy
      exact ⟨a, b⟩

theorem draw_places (l : List Int) (hl : l.length ≤ 140737488355328) (k : Nat) (hk : l.length + 13 < k) : ∃ r : List Int, spec_DrawPlaces.f k l = some r ∧ r.length = 12 ∧ ∀ j : Nat, j < 12 → 0 ≤ rd r j ∧ rd r j < 10000 := by
  unfold spec_DrawPlaces.f
  obtain ⟨h, e⟩ := draw_new l hl k (by omega)
  obtain ⟨x, i', h', e', a, b, c, d⟩ := draw_byte l hl 0 h (by omega) (by omega)
  rw [e]
  simp only [Option.bind_some, e']
  obtain ⟨r, er, hr, hx⟩ := draw_places_loop l hl 12 k [] 0 i' h' c d (by omega) rfl (fun y hy => by simp at hy) (by omega)
  refine ⟨r, er, hr, fun j hj => ?_⟩
  have hm : rd r j ∈ r := by
    unfold rd
    rw [show ((j : Int)).toNat = j by omega, List.getD_eq_getElem?_getD, List.getElem?_eq_getElem (by omega)]
    exact List.getElem_mem _
  exact hx _ hm

theorem part_le {p a : Int} (h0 : 0 ≤ p) (h : p ≤ a * 255) : 0 ≤ rdiv p 255 ∧ rdiv p 255 ≤ a := by
  unfold rdiv
  split <;> omega
theorem part_all (a : Int) : rdiv (a * 255) 255 = a := by
  unfold rdiv
  rw [if_neg (by omega)]
  omega
theorem part_none (a : Int) : rdiv (a * 0) 255 = 0 := by
  rw [Int.mul_zero]
  rfl

theorem FnBetween : laws_FnBetween.Pure := by
  intro l _ hl _
  refine ⟨l.length + 14, ?_⟩
  unfold laws_FnBetween.f laws_big.f
  rw [Option.bind_some]
  by_cases hbig : decide ((l.length : Int) > 1048576) = true
  · rw [if_pos hbig]
  · rw [if_neg hbig]
    clear hbig
    obtain ⟨r, e, hr, hx⟩ := draw_places l (by omega) (l.length + 14) (by omega)
    rw [e]
    have x0 : 0 ≤ rd r 0 ∧ rd r 0 < 10000 := hx 0 (by omega)
    have x1 : 0 ≤ rd r 1 ∧ rd r 1 < 10000 := hx 1 (by omega)
    have x2 : 0 ≤ rd r 2 ∧ rd r 2 < 10000 := hx 2 (by omega)
    have x3 : 0 ≤ rd r 3 ∧ rd r 3 < 10000 := hx 3 (by omega)
    have x4 : 0 ≤ rd r 4 ∧ rd r 4 < 10000 := hx 4 (by omega)
    have q0 : (0 : Int) < (r.length : Int) := by omega
    have q1 : (1 : Int) < (r.length : Int) := by omega
    have q2 : (2 : Int) < (r.length : Int) := by omega
    have q3 : (3 : Int) < (r.length : Int) := by omega
    have q4 : (4 : Int) < (r.length : Int) := by omega
    simp only [Option.bind_some, if_pos q0, if_pos q1, if_pos q2, if_pos q3, if_pos q4, impl_clamp, impl_times, spec_times]
    generalize rd r 0 = p0 at *
    generalize rd r 1 = p1 at *
    generalize rd r 2 = p2 at *
    generalize rd r 3 = p3 at *
    generalize rd r 4 = p4 at *
    rw [tmod_pos x3.1, tmod_pos x4.1]
    have wlo : wrap64 (p0 - 5000) = p0 - 5000 := w64 (by omega) (by omega)
    have whi : wrap64 (p0 - 5000 + p1) = p0 - 5000 + p1 := w64 (by omega) (by omega)
    have wx2 : wrap64 (p2 * 2) = p2 * 2 := w64 (by omega) (by omega)
    have wx : wrap64 (p2 * 2 - 10000) = p2 * 2 - 10000 := w64 (by omega) (by omega)
    rw [wlo, whi, wx2, wx]
    clear wlo whi wx2 wx
    have a0 : 0 ≤ p3 % 256 ∧ p3 % 256 ≤ 255 := by omega
    have b0 : 0 ≤ p4 % 256 ∧ p4 % 256 ≤ 255 := by omega
    generalize p3 % 256 = a at *
    generalize p4 % 256 = b at *
    have ca : clampI a 0 255 = a := clampI_self a0.1 a0.2
    have cb : clampI b 0 255 = b := clampI_self b0.1 b0.2
    have cc : clampI 255 0 255 = 255 := by decide
    have cz : clampI 0 0 255 = 0 := by decide
    rw [ca, cb, cc, cz, part_all, part_none, Int.mul_comm b a]
    have hab0 : 0 ≤ a * b := Int.mul_nonneg a0.1 b0.1
    have hab1 : a * b ≤ a * 255 := Int.mul_le_mul_of_nonneg_left b0.2 a0.1
    have hab2 : a * b ≤ b * 255 := by rw [Int.mul_comm a b]; exact Int.mul_le_mul_of_nonneg_left a0.2 b0.1
    have t1 := part_le hab0 hab1
    have t2 := part_le hab0 hab2
    generalize rdiv (a * b) 255 = t at *
    have hc := clampI_in (x := p2 * 2 - 10000) (lo := p0 - 5000) (hi := p0 - 5000 + p1) (by omega)
    have hcc := clampI_self hc.1 hc.2
    have g1 : clampI (p2 * 2 - 10000) (p0 - 5000) (p0 - 5000 + p1) ≥ p0 - 5000 := hc.1
    have g2 : t ≥ 0 := t1.1
    rw [hcc]
    simp only [if_pos g1, if_pos hc.2, if_pos t1.2, if_pos t2.2, if_pos g2, if_true, beq_self_eq_true]
    by_cases k1 : p2 * 2 - 10000 < p0 - 5000
    · rw [if_pos k1]
    · rw [if_neg k1]
      by_cases k2 : p2 * 2 - 10000 > p0 - 5000 + p1
      · rw [if_pos k2]
      · rw [if_neg k2, clampI_self (by omega) (by omega)]
        simp
end Go.Proofs.Ytjipfhcekjmjkaa.Pure
