/- FnMoves: drawn moves composed with one that stays still are themselves; shifted points are shifted back; for every code. -/
import Derived.Test.YtdlocaecdlgnjaaQFnMovesx0
import Derived.Test.YtdlocaecdlgnjaaQFnMovesx1
import Derived.Test.YtdlocaecdlgnjaaQFnMovesx2
import Derived.Test.YtdlocaecdlgnjaaQFnMovesx3
import Derived.Test.YtdlocaecdlgnjaaQFnMovesx4
import Derived.Test.YtdlocaecdlgnjaaQFnMovesx5
import Derived.Test.YtdlocaecdlgnjaaQFnMovesx6
import Derived.Test.YtdlocaecdlgnjaaQFnMovesx7
import Derived.Test.YtdlocaecdlgnjaaPlain
namespace Go.Proofs.Ytdlocaecdlgnjaa.Pure
open Go.RowKit Go.Proofs.Ytdlocaecdlgnjaa.PFnMoves Go.Proofs.Ytdlocaecdlgnjaa.Plain Go.Proofs.YtdlocaecdlgnjaaW.PrintWords Go.Proofs.YtdlocaecdlgnjaaW.PrintLast

theorem spec_clamp (x lo hi : Int) : spec_Clamp.f x lo hi = some (clampI x lo hi) := by
  unfold spec_Clamp.f
  exact clampI_text x lo hi

theorem impl_clamp (x lo hi : Int) : impl_Clamp.f x lo hi = some (clampI x lo hi) := by
  unfold impl_Clamp.f
  exact clampI_text x lo hi

def farB (x : Int) : Bool := decide (-8388608 ≤ x) && decide (x ≤ 8388608)
theorem farB_true {x : Int} : farB x = true ↔ -8388608 ≤ x ∧ x ≤ 8388608 := by simp [farB]

theorem spec_far (x : Int) : spec_l01In.f x (-8388608) 8388608 = some (farB x) := by
  unfold spec_l01In.f farB
  by_cases h : -8388608 ≤ x
  · rw [if_pos h]
    simp [h]
  · rw [if_neg h]
    simp [h]
theorem spec_pointOk (x y : Int) : spec_PointOk.f x y = some (farB x && farB y) := by
  unfold spec_PointOk.f
  rw [spec_far, spec_far]
  cases farB x <;> rfl

theorem impl_far (x : Int) : impl_isFar.f x = some (farB x) := by
  unfold impl_isFar.f impl_inRange.f farB
  by_cases h : -8388608 ≤ x
  · rw [if_pos h]
    simp [h]
  · rw [if_neg h]
    simp [h]
theorem impl_pointOk (x y : Int) : impl_PointOk.f x y = some (farB x && farB y) := by
  unfold impl_PointOk.f
  rw [impl_far, impl_far]
  cases farB x <;> rfl

theorem floor_some (a b : Int) : ∃ r, spec_FloorDiv.f a b = some r := by
  unfold spec_FloorDiv.f
  split
  · exact ⟨_, rfl⟩
  · rw [if_neg (by omega)]
    split <;> exact ⟨_, rfl⟩
theorem round_some (a b : Int) : ∃ r, spec_RoundDiv.f a b = some r ∧ impl_RoundDiv.f a b = some r := by
  have e : impl_RoundDiv.f a b = spec_RoundDiv.f a b := rfl
  rw [e]
  unfold spec_RoundDiv.f
  split
  · exact ⟨_, rfl, rfl⟩
  · obtain ⟨q, h⟩ := floor_some a b
    rw [h]
    simp only [Option.bind_some]
    split <;> exact ⟨_, rfl, rfl⟩
theorem wrap_zero (y : Int) : wrap64 (0 + wrap64 y) = wrap64 y := by
  unfold wrap64
  omega
theorem wrap_wrap (y : Int) : wrap64 (wrap64 y) = wrap64 y := by
  unfold wrap64
  omega

theorem impl_floor {a b : Int} (hb : 0 < b) (h0 : -4611686018427387904 ≤ a) (h1 : a ≤ 4611686018427387904) : impl_FloorDiv.f a b = some (a / b) := by
  unfold impl_FloorDiv.f
  exact floor_text hb h0 h1

theorem impl_round {a b : Int} (hb : 0 < b) (hb1 : b ≤ 4611686018427387904) (h0 : -4611686018427387904 ≤ a) (h1 : a ≤ 4611686018427387904) : impl_RoundDiv.f a b = some (rdiv a b) := by
  unfold impl_RoundDiv.f
  rw [if_neg (by omega), impl_floor hb h0 h1]
  simp only [Option.bind_some]
  exact round_text hb hb1 h0 h1

theorem mat_in (a b c : Int) : ∃ r, spec_l01In.f a b c = some r ∧ impl_inRange.f a b c = some r := by
  obtain ⟨r, h⟩ := impl_inRange.total a b c
  exact ⟨r, (show spec_l01In.f a b c = some r from h), h⟩
theorem mat_far (a : Int) : ∃ r, spec_l01In.f a (-8388608) 8388608 = some r ∧ impl_isFar.f a = some r := by
  obtain ⟨r, h, g⟩ := mat_in a (-8388608) 8388608
  exact ⟨r, h, by unfold impl_isFar.f; rw [g]; rfl⟩
theorem mat_same (a b c d e f : Int) : ∃ r, spec_MatOk.f a b c d e f = some r ∧ impl_MatOk.f a b c d e f = some r := by
  obtain ⟨r1, h1, g1⟩ := mat_in a (-1048576) 1048576
  obtain ⟨r2, h2, g2⟩ := mat_in b (-1048576) 1048576
  obtain ⟨r3, h3, g3⟩ := mat_in c (-1048576) 1048576
  obtain ⟨r4, h4, g4⟩ := mat_in d (-1048576) 1048576
  obtain ⟨r5, h5, g5⟩ := mat_far e
  obtain ⟨r6, h6, g6⟩ := mat_far f
  unfold spec_MatOk.f impl_MatOk.f
  simp only [Option.bind_some, h1, h2, h3, h4, h5, h6, g1, g2, g3, g4, g5, g6]
  cases r1 <;> cases r2 <;> cases r3 <;> cases r4 <;> cases r5 <;> cases r6 <;> exact ⟨_, rfl, rfl⟩

/-- A draw of one byte, wherever the reader stands. -/
theorem draw_byte (l : List Int) (hl : l.length ≤ 140737488355328) (i h : Int) (h0 : 0 ≤ i) (h1 : i ≤ l.length) :
    ∃ x i' h' : Int, spec_l01Byte.f l i h = some (x, i', h') ∧ 0 ≤ x ∧ x < 256 ∧ 0 ≤ i' ∧ i' ≤ l.length := by
  unfold spec_l01Byte.f
  by_cases hlt : i < (l.length : Int)
  · rw [if_pos hlt, if_pos h0, w64 (n := i + 1) (by omega) (by omega)]
    exact ⟨_, _, _, rfl, (and255 _).1, (and255 _).2, by omega, by omega⟩
  · rw [if_neg hlt]
    exact ⟨_, _, _, rfl, (and255 _).1, (and255 _).2, h0, h1⟩

/-- A drawn number below n. -/
theorem draw_below (l : List Int) (hl : l.length ≤ 140737488355328) (i h : Int) (h0 : 0 ≤ i) (h1 : i ≤ l.length) (n : Int) (hn : 0 < n) :
    ∃ x i' h' : Int, spec_l01Below.f l i h n = some (x, i', h') ∧ 0 ≤ x ∧ x < n ∧ 0 ≤ i' ∧ i' ≤ l.length := by
  unfold spec_l01Below.f
  obtain ⟨x, i1, g1, e1, a1, b1, c1, d1⟩ := draw_byte l hl i h h0 h1
  rw [if_neg (by omega)]
  by_cases hs : n ≤ 256
  · rw [if_pos hs, e1]
    simp only [Option.bind_some]
    rw [if_neg (by omega), tmod_pos a1]
    exact ⟨_, _, _, rfl, Int.emod_nonneg _ (by omega), Int.emod_lt_of_pos _ hn, c1, d1⟩
  · obtain ⟨y, i2, g2, e2, a2, b2, c2, d2⟩ := draw_byte l hl i1 g1 c1 d1
    obtain ⟨z, i3, g3, e3, a3, b3, c3, d3⟩ := draw_byte l hl i2 g2 c2 d2
    obtain ⟨w, i4, g4, e4, a4, b4, c4, d4⟩ := draw_byte l hl i3 g3 c3 d3
    rw [if_neg hs, e1]
    simp only [Option.bind_some, e2, e3, e4]
    rw [w64 (n := x * 16777216) (by omega) (by omega), w64 (n := y * 65536) (by omega) (by omega), w64 (n := z * 256) (by omega) (by omega), w64 (n := x * 16777216 + y * 65536) (by omega) (by omega),
      w64 (n := x * 16777216 + y * 65536 + z * 256) (by omega) (by omega), w64 (n := x * 16777216 + y * 65536 + z * 256 + w) (by omega) (by omega), if_neg (by omega), tmod_pos (by omega)]
    exact ⟨_, _, _, rfl, Int.emod_nonneg _ (by omega), Int.emod_lt_of_pos _ hn, c4, d4⟩

theorem draw_new_loop (l : List Int) (hl : l.length ≤ 140737488355328) (d : Nat) : ∀ (k : Nat) (h i : Int), 0 ≤ i → i ≤ l.length → (l.length : Int) - i = d → d < k → ∃ h' : Int, spec_l01New.l0 k l h i = some (l, 0, h') := by
  induction d with
  | zero =>
    intro k h i h0 h1 hd hk
    obtain ⟨k, rfl⟩ : ∃ m, k = m + 1 := ⟨k - 1, by omega⟩
    simp only [spec_l01New.l0]
    rw [if_neg (by omega)]
    exact ⟨_, rfl⟩
  | succ d ih =>
    intro k h i h0 h1 hd hk
    obtain ⟨k, rfl⟩ : ∃ m, k = m + 1 := ⟨k - 1, by omega⟩
    simp only [spec_l01New.l0]
    have hlt : i < (l.length : Int) := by omega
    rw [if_pos hlt]
    by_cases h4 : i < 4000
    · rw [if_pos h4, if_pos h0, w64 (n := i + 1) (by omega) (by omega)]
      exact ih k _ (i + 1) (by omega) (by omega) (by omega) (by omega)
    · rw [if_neg h4]
      exact ⟨_, rfl⟩

theorem draw_new (l : List Int) (hl : l.length ≤ 140737488355328) (k : Nat) (hk : l.length < k) : ∃ h : Int, spec_l01New.f k l = some (l, 0, h) := by
  unfold spec_l01New.f
  exact draw_new_loop l hl l.length k _ 0 (by omega) (by omega) (by omega) hk

theorem draw_point (l : List Int) (hl : l.length ≤ 140737488355328) (i h : Int) (h0 : 0 ≤ i) (h1 : i ≤ l.length) :
    ∃ x y i' h' : Int, spec_l04Point.f l i h = some (x, y, i', h') ∧ (-300 ≤ x ∧ x < 3300) ∧ (-300 ≤ y ∧ y < 3300) ∧ 0 ≤ i' ∧ i' ≤ l.length := by
  unfold spec_l04Point.f
  obtain ⟨x, i1, g1, e1, a1, b1, c1, d1⟩ := draw_below l hl i h h0 h1 3600 (by omega)
  obtain ⟨y, i2, g2, e2, a2, b2, c2, d2⟩ := draw_below l hl i1 g1 c1 d1 3600 (by omega)
  rw [e1]
  simp only [Option.bind_some, e2]
  rw [w64 (n := x - 300) (by omega) (by omega), w64 (n := y - 300) (by omega) (by omega)]
  exact ⟨_, _, _, _, rfl, by omega, by omega, c2, d2⟩

theorem in_yes {x lo hi : Int} (h0 : lo ≤ x) (h1 : x ≤ hi) : spec_l01In.f x lo hi = some true := by
  unfold spec_l01In.f
  rw [if_pos h0, decide_eq_true h1]
theorem mat_yes {a b c d e f : Int} (ha : -1048576 ≤ a ∧ a ≤ 1048576) (hb : -1048576 ≤ b ∧ b ≤ 1048576) (hc : -1048576 ≤ c ∧ c ≤ 1048576) (hd : -1048576 ≤ d ∧ d ≤ 1048576) (he : -8388608 ≤ e ∧ e ≤ 8388608) (hf : -8388608 ≤ f ∧ f ≤ 8388608) :
    spec_MatOk.f a b c d e f = some true := by
  unfold spec_MatOk.f
  rw [in_yes ha.1 ha.2, Option.bind_some, if_pos rfl, in_yes hb.1 hb.2, Option.bind_some, if_pos rfl, in_yes hc.1 hc.2, Option.bind_some, if_pos rfl, in_yes hd.1 hd.2, Option.bind_some, if_pos rfl, in_yes he.1 he.2, Option.bind_some, if_pos rfl, in_yes hf.1 hf.2, Option.bind_some]
/-- A drawn matrix is right and not far. -/
theorem draw_mat (l : List Int) (hl : l.length ≤ 140737488355328) (i h : Int) (h0 : 0 ≤ i) (h1 : i ≤ l.length) :
    ∃ a b c d e f i' h' : Int, spec_l04Mat.f l i h = some (a, b, c, d, e, f, i', h') ∧ ((-65536 ≤ a ∧ a ≤ 98304) ∧ (-65536 ≤ b ∧ b ≤ 65536) ∧ (-65536 ≤ c ∧ c ≤ 65536) ∧ (-65536 ≤ d ∧ d ≤ 98304) ∧ (-400 ≤ e ∧ e ≤ 800) ∧ (-400 ≤ f ∧ f ≤ 800)) ∧ 0 ≤ i' ∧ i' ≤ l.length := by
  unfold spec_l04Mat.f spec_Shift.f
  obtain ⟨x, i1, g1, e1, a1, b1, c1, d1⟩ := draw_below l hl i h h0 h1 1200 (by omega)
  obtain ⟨y, i2, g2, e2, a2, b2, c2, d2⟩ := draw_below l hl i1 g1 c1 d1 1200 (by omega)
  obtain ⟨z, i3, g3, e3, a3, b3, c3, d3⟩ := draw_below l hl i2 g2 c2 d2 6 (by omega)
  rw [e1]
  simp only [Option.bind_some, e2, e3]
  rw [w64 (n := x - 400) (by omega) (by omega), w64 (n := y - 400) (by omega) (by omega)]
  by_cases q0 : z = 0
  · rw [if_pos q0]
    obtain ⟨u, i4, g4, e4, a4, b4, c4, d4⟩ := draw_below l hl i3 g3 c3 d3 65536 (by omega)
    obtain ⟨v, i5, g5, e5, a5, b5, c5, d5⟩ := draw_below l hl i4 g4 c4 d4 65536 (by omega)
    rw [e4]
    simp only [Option.bind_some, e5]
    rw [w64 (n := 32768 + u) (by omega) (by omega), w64 (n := 32768 + v) (by omega) (by omega)]
    exact ⟨_, _, _, _, _, _, _, _, rfl, ⟨by omega, by omega, by omega, by omega, by omega, by omega⟩, c5, d5⟩
  · rw [if_neg q0]
    by_cases q1 : z = 1
    · rw [if_pos q1]
      exact ⟨_, _, _, _, _, _, _, _, rfl, ⟨by omega, by omega, by omega, by omega, by omega, by omega⟩, c3, d3⟩
    · rw [if_neg q1]
      by_cases q2 : z = 2
      · rw [if_pos q2]
        obtain ⟨u, i4, g4, e4, a4, b4, c4, d4⟩ := draw_below l hl i3 g3 c3 d3 65536 (by omega)
        rw [e4]
        simp only [Option.bind_some]
        rw [w64 (n := u - 32768) (by omega) (by omega)]
        exact ⟨_, _, _, _, _, _, _, _, rfl, ⟨by omega, by omega, by omega, by omega, by omega, by omega⟩, c4, d4⟩
      · rw [if_neg q2]
        exact ⟨_, _, _, _, _, _, _, _, rfl, ⟨by omega, by omega, by omega, by omega, by omega, by omega⟩, c3, d3⟩
/-- A drawn move. -/
theorem draw_moved (l : List Int) (hl : l.length ≤ 140737488355328) (k : Nat) (hk : l.length < k) :
    ∃ a b c d e f x y : Int, spec_DrawMoved.f k l = some (a, b, c, d, e, f, x, y) ∧ ((-65536 ≤ a ∧ a ≤ 98304) ∧ (-65536 ≤ b ∧ b ≤ 65536) ∧ (-65536 ≤ c ∧ c ≤ 65536) ∧ (-65536 ≤ d ∧ d ≤ 98304) ∧ (-400 ≤ e ∧ e ≤ 800) ∧ (-400 ≤ f ∧ f ≤ 800)) ∧
      (-300 ≤ x ∧ x < 3300) ∧ (-300 ≤ y ∧ y < 3300) := by
  obtain ⟨h, e0⟩ := draw_new l hl k hk
  obtain ⟨a, b, c, d, e, f, i', h', e1, hm, q0, q1⟩ := draw_mat l hl 0 h (by omega) (by omega)
  obtain ⟨x, y, i2, h2, e2, hx, hy, _, _⟩ := draw_point l hl i' h' q0 q1
  unfold spec_DrawMoved.f
  rw [e0, Option.bind_some]
  simp only
  rw [e1, Option.bind_some]
  simp only
  rw [e2, Option.bind_some]
  exact ⟨_, _, _, _, _, _, _, _, rfl, hm, hx, hy⟩

theorem mul_in {a x : Int} {m n : Nat} (ha : a.natAbs ≤ m) (hx : x.natAbs ≤ n) : (a * x).natAbs ≤ m * n := by
  rw [Int.natAbs_mul]
  exact Nat.mul_le_mul ha hx
theorem rdiv_one (z : Int) : rdiv (65536 * z) 65536 = z := by
  unfold rdiv
  rw [if_neg (by omega)]
  omega
theorem rdiv_in {n : Int} {m : Int} (h0 : -(65536 * m) ≤ n) (h1 : n ≤ 65536 * m) : -m ≤ rdiv n 65536 ∧ rdiv n 65536 ≤ m := by
  unfold rdiv
  split <;> omega
theorem mixed_val {a b c d : Int} (h1 : -1152921504606846976 ≤ a * b ∧ a * b ≤ 1152921504606846976) (h2 : -1152921504606846976 ≤ c * d ∧ c * d ≤ 1152921504606846976) : impl_mixed.f a b c d = some (rdiv (a * b + c * d) 65536) := by
  unfold impl_mixed.f
  generalize a * b = p at *
  generalize c * d = q at *
  rw [w64 (n := p) (by omega) (by omega), w64 (n := q) (by omega) (by omega), w64 (n := p + q) (by omega) (by omega), impl_round (by omega) (by omega) (by omega) (by omega), Option.bind_some]
theorem mixed_is {a b c d z : Int} (h1 : -1152921504606846976 ≤ a * b ∧ a * b ≤ 1152921504606846976) (h2 : -1152921504606846976 ≤ c * d ∧ c * d ≤ 1152921504606846976) (h : a * b + c * d = 65536 * z) : impl_mixed.f a b c d = some z := by
  rw [mixed_val h1 h2, h, rdiv_one]
/-- A matrix that is right and not far. -/
def Mt (a b c d e f : Int) : Prop := (-65536 ≤ a ∧ a ≤ 98304) ∧ (-65536 ≤ b ∧ b ≤ 65536) ∧ (-65536 ≤ c ∧ c ≤ 65536) ∧ (-65536 ≤ d ∧ d ≤ 98304) ∧ (-1000 ≤ e ∧ e ≤ 1000) ∧ (-1000 ≤ f ∧ f ≤ 1000)
theorem mat_ok {a b c d e f : Int} (h : Mt a b c d e f) : spec_MatOk.f a b c d e f = some true ∧ impl_MatOk.f a b c d e f = some true := by
  obtain ⟨h1, h2, h3, h4, h5, h6⟩ := h
  have e1 : spec_MatOk.f a b c d e f = some true := mat_yes (by omega) (by omega) (by omega) (by omega) (by omega) (by omega)
  obtain ⟨r, g1, g2⟩ := mat_same a b c d e f
  rw [e1] at g1
  exact ⟨e1, by rw [g2, ← g1]⟩
theorem point_ok {x y : Int} (hx : -400 ≤ x ∧ x ≤ 4000) (hy : -400 ≤ y ∧ y ≤ 4000) : impl_PointOk.f x y = some true := by
  rw [impl_pointOk, farB_true.2 ⟨by omega, by omega⟩, farB_true.2 ⟨by omega, by omega⟩]
  rfl
theorem prod_in {a x : Int} (ha : -98304 ≤ a ∧ a ≤ 98304) (hx : -400 ≤ x ∧ x ≤ 4000) : -393216000 ≤ a * x ∧ a * x ≤ 393216000 := by
  have h := mul_in (a := a) (x := x) (m := 98304) (n := 4000) (by omega) (by omega)
  generalize a * x = p at *
  omega
theorem apply_val {a b c d e f x y : Int} (h : Mt a b c d e f) (hx : -400 ≤ x ∧ x ≤ 4000) (hy : -400 ≤ y ∧ y ≤ 4000) :
    impl_Apply.f a b c d e f x y = some (rdiv (a * x + c * y) 65536 + e, rdiv (b * x + d * y) 65536 + f) := by
  have hm := (mat_ok h).2
  obtain ⟨h1, h2, h3, h4, h5, h6⟩ := h
  have q1 := prod_in (a := a) (x := x) (by omega) hx
  have q2 := prod_in (a := c) (x := y) (by omega) hy
  have q3 := prod_in (a := b) (x := x) (by omega) hx
  have q4 := prod_in (a := d) (x := y) (by omega) hy
  have u := rdiv_in (n := a * x + c * y) (m := 12000) (by omega) (by omega)
  have v := rdiv_in (n := b * x + d * y) (m := 12000) (by omega) (by omega)
  unfold impl_Apply.f impl_apply.f
  rw [hm, Option.bind_some, if_pos rfl, point_ok hx hy, Option.bind_some, if_pos rfl, mixed_val (by omega) (by omega), Option.bind_some, mixed_val (by omega) (by omega)]
  generalize rdiv (a * x + c * y) 65536 = s at *
  generalize rdiv (b * x + d * y) 65536 = t at *
  rw [w64 (n := s + e) (by omega) (by omega), impl_clamp, clampI_self (by omega) (by omega)]
  simp only [Option.bind_some]
  rw [w64 (n := t + f) (by omega) (by omega), impl_clamp, clampI_self (by omega) (by omega)]
  rfl
theorem apply_shift {s t x y : Int} (hs : -100 ≤ s ∧ s ≤ 100) (ht : -100 ≤ t ∧ t ≤ 100) (hx : -400 ≤ x ∧ x ≤ 4000) (hy : -400 ≤ y ∧ y ≤ 4000) : impl_Apply.f 65536 0 0 65536 s t x y = some (x + s, y + t) := by
  rw [apply_val ⟨by omega, by omega, by omega, by omega, by omega, by omega⟩ hx hy, show (65536 : Int) * x + 0 * y = 65536 * x by omega, show (0 : Int) * x + 65536 * y = 65536 * y by omega, rdiv_one, rdiv_one]
theorem comp_still {a b c d e f : Int} (h : Mt a b c d e f) (k : Nat) : impl_Compose.f (k + 1) a b c d e f 65536 0 0 65536 0 0 = some (a, b, c, d, e, f, true) := by
  have hm := (mat_ok h).2
  have hs := (mat_ok (a := 65536) (b := 0) (c := 0) (d := 65536) (e := 0) (f := 0) ⟨by omega, by omega, by omega, by omega, by omega, by omega⟩).2
  obtain ⟨h1, h2, h3, h4, h5, h6⟩ := h
  unfold impl_Compose.f
  rw [hm, Option.bind_some, if_pos rfl, hs, Option.bind_some, impl_Compose.j0, if_neg (by decide), mixed_is (z := a) (by omega) (by omega) (by omega), Option.bind_some, mixed_is (z := b) (by omega) (by omega) (by omega), Option.bind_some,
    mixed_is (z := c) (by omega) (by omega) (by omega), Option.bind_some, mixed_is (z := d) (by omega) (by omega) (by omega), Option.bind_some, mixed_is (z := 0) (by omega) (by omega) (by omega), Option.bind_some, mixed_is (z := 0) (by omega) (by omega) (by omega), Option.bind_some,
    w64 (n := 0 + e) (by omega) (by omega), w64 (n := 0 + f) (by omega) (by omega), show (0 : Int) + e = e by omega, show (0 : Int) + f = f by omega, hm, Option.bind_some, if_pos rfl]
theorem comp_shift {a b c d e f s t : Int} (h : Mt a b c d (e + s) (f + t)) (hs : -10 ≤ s ∧ s ≤ 10) (ht : -10 ≤ t ∧ t ≤ 10) (h0 : Mt a b c d e f) (k : Nat) : impl_Compose.f (k + 1) 65536 0 0 65536 s t a b c d e f = some (a, b, c, d, e + s, f + t, true) := by
  have hm := (mat_ok h0).2
  have hm' := (mat_ok h).2
  have hs' := (mat_ok (a := 65536) (b := 0) (c := 0) (d := 65536) (e := s) (f := t) ⟨by omega, by omega, by omega, by omega, by omega, by omega⟩).2
  obtain ⟨h1, h2, h3, h4, h5, h6⟩ := h0
  unfold impl_Compose.f
  rw [hs', Option.bind_some, if_pos rfl, hm, Option.bind_some, impl_Compose.j0, if_neg (by decide), mixed_is (z := a) (by omega) (by omega) (by omega), Option.bind_some, mixed_is (z := b) (by omega) (by omega) (by omega), Option.bind_some,
    mixed_is (z := c) (by omega) (by omega) (by omega), Option.bind_some, mixed_is (z := d) (by omega) (by omega) (by omega), Option.bind_some, mixed_is (z := e) (by omega) (by omega) (by omega), Option.bind_some, mixed_is (z := f) (by omega) (by omega) (by omega), Option.bind_some,
    w64 (n := e + s) (by omega) (by omega), w64 (n := f + t) (by omega) (by omega), hm', Option.bind_some, if_pos rfl]
theorem apply_spec {a b c d e f x y : Int} (h : Mt a b c d e f) (hx : -400 ≤ x ∧ x ≤ 4000) (hy : -400 ≤ y ∧ y ≤ 4000) (k : Nat) : spec_Apply.f (k + 1) a b c d e f x y = impl_Apply.f a b c d e f x y := by
  obtain ⟨hm, hm'⟩ := mat_ok h
  obtain ⟨u, h3, g3⟩ := round_some (wrap64 ((wrap64 (a * x)) + (wrap64 (c * y)))) 65536
  obtain ⟨v, h4, g4⟩ := round_some (wrap64 ((wrap64 (b * x)) + (wrap64 (d * y)))) 65536
  have hp : (farB x && farB y) = true := by
    rw [farB_true.2 ⟨by omega, by omega⟩, farB_true.2 ⟨by omega, by omega⟩]
    rfl
  unfold spec_Apply.f impl_Apply.f impl_apply.f impl_mixed.f
  rw [hm, hm', Option.bind_some, Option.bind_some, if_pos rfl, if_pos rfl, spec_pointOk, impl_pointOk, hp, Option.bind_some, Option.bind_some, if_pos rfl, spec_Apply.j0, if_neg (by decide), h3, h4, g3, g4]
  simp only [Option.bind_some]
  rw [spec_clamp, spec_clamp, impl_clamp, impl_clamp]
  rfl
theorem FnMoves : laws_FnMoves.Pure := by
  intro l _ hl _
  refine ⟨l.length + 1 + 1, ?_⟩
  unfold laws_FnMoves.f laws_big.f
  rw [Option.bind_some]
  by_cases hbig : decide ((l.length : Int) > 1048576) = true
  · rw [if_pos hbig]
  · rw [if_neg hbig]
    clear hbig
    obtain ⟨a, b, c, d, e, f, x, y, e1, ⟨m1, m2, m3, m4, m5, m6⟩, hx, hy⟩ := draw_moved l (by omega) (l.length + 1 + 1) (by omega)
    have hm : Mt a b c d e f := ⟨m1, m2, m3, m4, by omega, by omega⟩
    have hm5 : Mt a b c d (e + 5) (f + 9) := ⟨m1, m2, m3, m4, by omega, by omega⟩
    have hm0 : Mt a b c d (e + 0) (f + 0) := ⟨m1, m2, m3, m4, by omega, by omega⟩
    have s1 : impl_Shift.f 70 (-30) = some (65536, 0, 0, 65536, 70, -30) := rfl
    have s2 : impl_Shift.f 5 9 = some (65536, 0, 0, 65536, 5, 9) := rfl
    have s3 : impl_Shift.f (-70) 30 = some (65536, 0, 0, 65536, -70, 30) := rfl
    have s4 : impl_Still.f = some (65536, 0, 0, 65536, 0, 0) := rfl
    have t1 := apply_shift (s := 70) (t := -30) (x := x) (y := y) (by omega) (by omega) (by omega) (by omega)
    have t2 := comp_still hm (l.length + 1)
    have t3 := comp_shift (s := 0) (t := 0) hm0 (by omega) (by omega) hm (l.length + 1)
    have t4 := comp_shift (s := 5) (t := 9) hm5 (by omega) (by omega) hm (l.length + 1)
    have t5 := apply_val hm (x := x) (y := y) (by omega) (by omega)
    have t6 := apply_val hm5 (x := x) (y := y) (by omega) (by omega)
    have t7 := apply_shift (s := 0) (t := 0) (x := x) (y := y) (by omega) (by omega) (by omega) (by omega)
    have t8 := apply_shift (s := -70) (t := 30) (x := x + 70) (y := y + -30) (by omega) (by omega) (by omega) (by omega)
    have t9 := apply_spec hm (x := x) (y := y) (by omega) (by omega) (l.length + 1)
    have u := rdiv_in (n := a * x + c * y) (m := 12000) (by have := prod_in (a := a) (x := x) (by omega) (by omega); have := prod_in (a := c) (x := y) (by omega) (by omega); omega) (by have := prod_in (a := a) (x := x) (by omega) (by omega); have := prod_in (a := c) (x := y) (by omega) (by omega); omega)
    have v := rdiv_in (n := b * x + d * y) (m := 12000) (by have := prod_in (a := b) (x := x) (by omega) (by omega); have := prod_in (a := d) (x := y) (by omega) (by omega); omega) (by have := prod_in (a := b) (x := x) (by omega) (by omega); have := prod_in (a := d) (x := y) (by omega) (by omega); omega)
    rw [t5] at t9
    generalize rdiv (a * x + c * y) 65536 = s at *
    generalize rdiv (b * x + d * y) 65536 = t at *
    have o1 := (mat_ok hm).2
    have o2 := point_ok (x := x) (y := y) (by omega) (by omega)
    simp only [Int.add_zero] at t3 t7
    rw [e1, Option.bind_some]
    simp only [s1, s2, s3, s4, t1, t2, t3, t4, t5, t6, t7, t8, t9, o1, o2, Option.bind_some, beq_self_eq_true, Bool.and_self, if_true]
    rw [w64 (n := x + 70) (by omega) (by omega), w64 (n := y - 30) (by omega) (by omega), w64 (n := s + e + 5) (by omega) (by omega), w64 (n := t + f + 9) (by omega) (by omega), if_pos rfl, if_pos (by omega), show x + 70 + -70 = x by omega, show y + -30 + 30 = y by omega]
    simp only [beq_self_eq_true, Bool.and_self, if_true]
    rw [if_pos (by omega), if_pos (by omega)]
end Go.Proofs.Ytdlocaecdlgnjaa.Pure
