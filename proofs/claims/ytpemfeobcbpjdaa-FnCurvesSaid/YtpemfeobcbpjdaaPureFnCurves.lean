/- FnCurves: drawn curves begin and end at their ends, and stay in the box of their points; for every code. -/
import Derived.Test.YtpemfeobcbpjdaaQFnCurvesx1
import Derived.Test.YtpemfeobcbpjdaaQFnCurvesx2
import Derived.Test.YtpemfeobcbpjdaaQFnCurvesx3
import Derived.Test.YtpemfeobcbpjdaaQFnCurvesx4
import Derived.Test.YtpemfeobcbpjdaaQFnCurvesx5
import Derived.Test.YtpemfeobcbpjdaaQFnCurvesx6
import Derived.Test.YtpemfeobcbpjdaaPlain
namespace Go.Proofs.Ytpemfeobcbpjdaa.Pure
open Go.RowKit Go.Proofs.Ytpemfeobcbpjdaa.PFnCurves Go.Proofs.Ytpemfeobcbpjdaa.Plain Go.Proofs.YtpemfeobcbpjdaaW.PrintWords Go.Proofs.YtpemfeobcbpjdaaW.PrintLast

theorem spec_clamp (x lo hi : Int) : spec_Clamp.f x lo hi = some (clampI x lo hi) := by
  unfold spec_Clamp.f
  exact clampI_text x lo hi

theorem impl_clamp (x lo hi : Int) : impl_Clamp.f x lo hi = some (clampI x lo hi) := by
  unfold impl_Clamp.f
  exact clampI_text x lo hi

def farB (x : Int) : Bool := decide (-8388608 ≤ x) && decide (x ≤ 8388608)
theorem farB_true {x : Int} : farB x = true ↔ -8388608 ≤ x ∧ x ≤ 8388608 := by simp [farB]

theorem spec_far (x : Int) : spec_l01In.f x (-8388608) 8388608 = some (farB x) := by
  unfold spec_l01In.f farB
  by_cases h : -8388608 ≤ x
  · rw [if_pos h]
    simp [h]
  · rw [if_neg h]
    simp [h]
theorem spec_pointOk (x y : Int) : spec_PointOk.f x y = some (farB x && farB y) := by
  unfold spec_PointOk.f
  rw [spec_far, spec_far]
  cases farB x <;> rfl

theorem impl_far (x : Int) : impl_isFar.f x = some (farB x) := by
  unfold impl_isFar.f impl_inRange.f farB
  by_cases h : -8388608 ≤ x
  · rw [if_pos h]
    simp [h]
  · rw [if_neg h]
    simp [h]
theorem impl_pointOk (x y : Int) : impl_PointOk.f x y = some (farB x && farB y) := by
  unfold impl_PointOk.f
  rw [impl_far, impl_far]
  cases farB x <;> rfl

theorem rdP (l : List S34) (i : Nat) (h : i < l.length) : rd_T34 l (i : Int) = l[i] := by
  unfold rd_T34
  rw [show ((i : Int)).toNat = i by omega, List.getD_eq_getElem?_getD, List.getElem?_eq_getElem h]
  rfl

def okP (p : S34) : Bool := farB p.f0 && farB p.f1
theorem points_loop (l : List S34) (hl : l.length ≤ 9223372036854775806) (d : Nat) : ∀ (k i : Nat), l.length - i = d → i ≤ l.length → d < k → impl_pointsOk.l0 k l (l.length : Int) (i : Int) = some ((l.drop i).all okP) := by
  induction d with
  | zero =>
    intro k i hd hi hk
    obtain ⟨k, rfl⟩ : ∃ m, k = m + 1 := ⟨k - 1, by omega⟩
    simp only [impl_pointsOk.l0]
    rw [if_neg (by omega), List.drop_of_length_le (by omega)]
    rfl
  | succ d ih =>
    intro k i hd hi hk
    obtain ⟨k, rfl⟩ : ∃ m, k = m + 1 := ⟨k - 1, by omega⟩
    simp only [impl_pointsOk.l0]
    have hlt : i < l.length := by omega
    have c1 : (i : Int) < (l.length : Int) := by omega
    have c2 : (0 : Int) ≤ (i : Int) := by omega
    rw [if_pos c1, if_pos c2, if_pos c1, impl_pointOk, rdP l i hlt, w64 (n := (i : Int) + 1) (by omega) (by omega), show (i : Int) + 1 = ((i + 1 : Nat) : Int) by omega, ih k (i + 1) (by omega) (by omega) (by omega), List.drop_eq_getElem_cons hlt]
    simp only [Option.bind_some, List.all_cons, okP]
    cases farB l[i].f0 <;> cases farB l[i].f1 <;> simp
theorem points_ok (l : List S34) (hl : l.length ≤ 9223372036854775806) (k : Nat) (hk : l.length < k) : impl_pointsOk.f k l = some (l.all okP) := by
  unfold impl_pointsOk.f
  have := points_loop l hl l.length k 0 (by omega) (by omega) hk
  simpa using this

theorem floor_some (a b : Int) : ∃ r, spec_FloorDiv.f a b = some r := by
  unfold spec_FloorDiv.f
  split
  · exact ⟨_, rfl⟩
  · rw [if_neg (by omega)]
    split <;> exact ⟨_, rfl⟩
theorem round_some (a b : Int) : ∃ r, spec_RoundDiv.f a b = some r ∧ impl_RoundDiv.f a b = some r := by
  have e : impl_RoundDiv.f a b = spec_RoundDiv.f a b := rfl
  rw [e]
  unfold spec_RoundDiv.f
  split
  · exact ⟨_, rfl, rfl⟩
  · obtain ⟨q, h⟩ := floor_some a b
    rw [h]
    simp only [Option.bind_some]
    split <;> exact ⟨_, rfl, rfl⟩
theorem wrap_zero (y : Int) : wrap64 (0 + wrap64 y) = wrap64 y := by
  unfold wrap64
  omega
theorem wrap_wrap (y : Int) : wrap64 (wrap64 y) = wrap64 y := by
  unfold wrap64
  omega

theorem impl_floor {a b : Int} (hb : 0 < b) (h0 : -4611686018427387904 ≤ a) (h1 : a ≤ 4611686018427387904) : impl_FloorDiv.f a b = some (a / b) := by
  unfold impl_FloorDiv.f
  exact floor_text hb h0 h1

theorem impl_round {a b : Int} (hb : 0 < b) (hb1 : b ≤ 4611686018427387904) (h0 : -4611686018427387904 ≤ a) (h1 : a ≤ 4611686018427387904) : impl_RoundDiv.f a b = some (rdiv a b) := by
  unfold impl_RoundDiv.f
  rw [if_neg (by omega), impl_floor hb h0 h1]
  simp only [Option.bind_some]
  exact round_text hb hb1 h0 h1

theorem spec_empty (a b c d : Int) : spec_Empty.f a b c d = some (emB a b c d) := by
  unfold spec_Empty.f
  exact emB_text a b c d

theorem spec_most (a b : Int) : spec_l05Most.f a b = some (mx a b) := by
  unfold spec_l05Most.f mx
  by_cases h : a < b
  · rw [if_neg (by omega), if_pos h]
  · rw [if_neg h]
    by_cases e : b < a
    · rw [if_pos (by omega)]
    · rw [if_neg (by omega), show a = b by omega]
theorem spec_least (a b : Int) : spec_l05Least.f a b = some (mn a b) := by
  unfold spec_l05Least.f mn
  by_cases h : b < a
  · rw [if_neg (by omega), if_pos h]
  · rw [if_neg h]
    by_cases e : a < b
    · rw [if_pos (by omega)]
    · rw [if_neg (by omega), show a = b by omega]

def joinB (a b : Int × Int × Int × Int) : Int × Int × Int × Int :=
  if emB a.1 a.2.1 a.2.2.1 a.2.2.2 && emB b.1 b.2.1 b.2.2.1 b.2.2.2 then (0, 0, 0, 0) else if emB a.1 a.2.1 a.2.2.1 a.2.2.2 then b else if emB b.1 b.2.1 b.2.2.1 b.2.2.2 then a
  else (mn a.1 b.1, mn a.2.1 b.2.1, mx a.2.2.1 b.2.2.1, mx a.2.2.2 b.2.2.2)

theorem spec_join (k : Nat) (a0 a1 a2 a3 b0 b1 b2 b3 : Int) : spec_JoinBox.f (k + 1) a0 a1 a2 a3 b0 b1 b2 b3 = some (joinB (a0, a1, a2, a3) (b0, b1, b2, b3)) := by
  unfold spec_JoinBox.f joinB
  simp only [spec_empty, Option.bind_some, spec_JoinBox.j0, spec_most, spec_least]
  cases emB a0 a1 a2 a3 <;> cases emB b0 b1 b2 b3 <;> simp

def c4 (x : Int) : Int := clampI x (-33554432) 33554432
theorem c4_in (x : Int) : -33554432 ≤ c4 x ∧ c4 x ≤ 33554432 := clampI_in (by omega)
theorem c4_self {x : Int} (h0 : -33554432 ≤ x) (h1 : x ≤ 33554432) : c4 x = x := clampI_self h0 h1
theorem spec_c4 (x : Int) : spec_l05Clamp.f x = some (c4 x) := by
  unfold spec_l05Clamp.f
  rw [spec_clamp]
  rfl

abbrev B4 := Int × Int × Int × Int
def inB (b : B4) (x y : Int) : Prop := b.1 ≤ x ∧ x < b.2.2.1 ∧ b.2.1 ≤ y ∧ y < b.2.2.2
theorem inB_left {a b : B4} {x y : Int} (h : inB a x y) : inB (joinB a b) x y := by
  obtain ⟨a0, a1, a2, a3⟩ := a
  obtain ⟨b0, b1, b2, b3⟩ := b
  simp only [inB] at h ⊢
  have ha : emB a0 a1 a2 a3 = false := emB_false.2 (by omega)
  unfold joinB
  simp only [ha]
  cases hb : emB b0 b1 b2 b3
  · simp only [Bool.and_self, Bool.false_eq_true, if_false, mn, mx]
    refine ⟨?_, ?_, ?_, ?_⟩ <;> split <;> omega
  · simpa using h
theorem inB_right {a b : B4} {x y : Int} (h : inB b x y) : inB (joinB a b) x y := by
  obtain ⟨a0, a1, a2, a3⟩ := a
  obtain ⟨b0, b1, b2, b3⟩ := b
  simp only [inB] at h ⊢
  have hb : emB b0 b1 b2 b3 = false := emB_false.2 (by omega)
  unfold joinB
  simp only [hb]
  cases ha : emB a0 a1 a2 a3
  · simp only [Bool.and_self, Bool.false_eq_true, if_false, mn, mx]
    refine ⟨?_, ?_, ?_, ?_⟩ <;> split <;> omega
  · simpa using h
def oneB (p : S34) : B4 := (c4 p.f0, c4 p.f1, c4 p.f0 + 1, c4 p.f1 + 1)
def boxFrom (b : B4) (l : List S34) : B4 := l.foldl (fun b p => joinB b (oneB p)) b
def boxL (l : List S34) : B4 := boxFrom (0, 0, 0, 0) l
theorem boxFrom_in (l : List S34) : ∀ (b : B4) (x y : Int), inB b x y → inB (boxFrom b l) x y := by
  induction l with
  | nil => intro b x y h; exact h
  | cons p l ih => intro b x y h; exact ih _ x y (inB_left h)
theorem boxL_has (l : List S34) : ∀ (b : B4) (p : S34), p ∈ l → inB (boxFrom b l) (c4 p.f0) (c4 p.f1) := by
  induction l with
  | nil => intro b p h; simp at h
  | cons q l ih =>
    intro b p h
    rcases List.mem_cons.1 h with rfl | h
    · refine boxFrom_in l _ _ _ (inB_right ?_)
      simp only [inB, oneB]
      omega
    · exact ih _ p h
theorem spec_box_loop (l : List S34) (hl : l.length ≤ 9223372036854775806) (d : Nat) : ∀ (k i : Nat) (b : B4), l.length - i = d → i ≤ l.length → d + 1 < k → spec_BoxOf.l0 k l (i : Int) b.1 b.2.1 b.2.2.1 b.2.2.2 = some (boxFrom b (l.drop i)) := by
  induction d with
  | zero =>
    intro k i b hd hi hk
    obtain ⟨k, rfl⟩ : ∃ m, k = m + 1 := ⟨k - 1, by omega⟩
    simp only [spec_BoxOf.l0]
    rw [if_neg (by omega), List.drop_of_length_le (by omega)]
    rfl
  | succ d ih =>
    intro k i b hd hi hk
    obtain ⟨k, rfl⟩ : ∃ m, k = m + 2 := ⟨k - 2, by omega⟩
    rw [spec_BoxOf.l0]
    have hlt : i < l.length := by omega
    have c1 : (i : Int) < (l.length : Int) := by omega
    have c2 : (0 : Int) ≤ (i : Int) := by omega
    have h0 := c4_in l[i].f0
    have h1 := c4_in l[i].f1
    rw [if_pos c1, if_pos c2, rdP l i hlt, spec_c4, Option.bind_some, spec_c4, Option.bind_some, w64 (n := c4 l[i].f0 + 1) (by omega) (by omega), w64 (n := c4 l[i].f1 + 1) (by omega) (by omega), spec_join, Option.bind_some,
      w64 (n := (i : Int) + 1) (by omega) (by omega), show (i : Int) + 1 = ((i + 1 : Nat) : Int) by omega, ih (k + 1) (i + 1) _ (by omega) (by omega) (by omega), List.drop_eq_getElem_cons hlt]
    rfl
theorem spec_box (l : List S34) (hl : l.length ≤ 9223372036854775806) (k : Nat) (hk : l.length + 1 < k) : spec_BoxOf.f k l = some (boxL l) := by
  unfold spec_BoxOf.f
  have := spec_box_loop l hl l.length k 0 (0, 0, 0, 0) (by omega) (by omega) hk
  simpa [boxL] using this

theorem weigh4 (k : Nat) (a0 a1 b0 b1 c0 c1 d0 d1 u v w z : Int) : ∃ r : Int × Int,
    impl_weighed.l0 (k + 5) [u, v, w, z] 512 0 0 [⟨a0, a1⟩, ⟨b0, b1⟩, ⟨c0, c1⟩, ⟨d0, d1⟩] 4 0 = some r ∧
    spec_RoundDiv.f (wrap64 (wrap64 (wrap64 (wrap64 (u * a0) + wrap64 (v * b0)) + wrap64 (w * c0)) + wrap64 (z * d0))) 512 = some r.1 ∧
    spec_RoundDiv.f (wrap64 (wrap64 (wrap64 (wrap64 (u * a1) + wrap64 (v * b1)) + wrap64 (w * c1)) + wrap64 (z * d1))) 512 = some r.2 := by
  obtain ⟨x, h1, g1⟩ := round_some (wrap64 (wrap64 (wrap64 (wrap64 (u * a0) + wrap64 (v * b0)) + wrap64 (w * c0)) + wrap64 (z * d0))) 512
  obtain ⟨y, h2, g2⟩ := round_some (wrap64 (wrap64 (wrap64 (wrap64 (u * a1) + wrap64 (v * b1)) + wrap64 (w * c1)) + wrap64 (z * d1))) 512
  refine ⟨(x, y), ?_, h1, h2⟩
  have e1 : wrap64 (0 + 1) = 1 := by decide +kernel
  have e2 : wrap64 (1 + 1) = 2 := by decide +kernel
  have e3 : wrap64 (2 + 1) = 3 := by decide +kernel
  have e4 : wrap64 (3 + 1) = 4 := by decide +kernel
  rw [Int.mul_comm u a0, Int.mul_comm v b0, Int.mul_comm w c0, Int.mul_comm z d0] at g1
  rw [Int.mul_comm u a1, Int.mul_comm v b1, Int.mul_comm w c1, Int.mul_comm z d1] at g2
  simp only [impl_weighed.l0, e1, e2, e3, e4]
  simp [rd, rd_T34, wrap_wrap, g1, g2]

theorem cubic_both (k : Nat) (a0 a1 b0 b1 c0 c1 d0 d1 i : Int) : ∃ r : Int × Int, spec_CubicAt.f (k + 5) a0 a1 b0 b1 c0 c1 d0 d1 i = some r ∧ impl_CubicAt.f (k + 5) a0 a1 b0 b1 c0 c1 d0 d1 i = some r := by
  unfold spec_CubicAt.f impl_CubicAt.f impl_weighed.f
  simp only [Option.bind_some, spec_pointOk, impl_clamp]
  rw [points_ok _ (by simp) _ (by simp)]
  simp only [Option.bind_some, List.all_cons, List.all_nil, okP, Bool.and_true]
  obtain ⟨r, h, g1, g2⟩ := weigh4 k a0 a1 b0 b1 c0 c1 d0 d1 (wrap64 (wrap64 (wrap64 (8 - clampI i 0 8) * wrap64 (8 - clampI i 0 8)) * wrap64 (8 - clampI i 0 8))) (wrap64 (wrap64 (wrap64 (3 * clampI i 0 8) * wrap64 (8 - clampI i 0 8)) * wrap64 (8 - clampI i 0 8))) (wrap64 (wrap64 (wrap64 (3 * clampI i 0 8) * clampI i 0 8) * wrap64 (8 - clampI i 0 8))) (wrap64 (wrap64 (clampI i 0 8 * clampI i 0 8) * clampI i 0 8))
  cases ha : (farB a0 && farB a1) <;> cases hb : (farB b0 && farB b1) <;> cases hc : (farB c0 && farB c1) <;> cases hd : (farB d0 && farB d1) <;> simp [spec_CubicAt.j0, spec_clamp, h, g1, g2]

/-- A draw of one byte, wherever the reader stands. -/
theorem draw_byte (l : List Int) (hl : l.length ≤ 140737488355328) (i h : Int) (h0 : 0 ≤ i) (h1 : i ≤ l.length) :
    ∃ x i' h' : Int, spec_l01Byte.f l i h = some (x, i', h') ∧ 0 ≤ x ∧ x < 256 ∧ 0 ≤ i' ∧ i' ≤ l.length := by
  unfold spec_l01Byte.f
  by_cases hlt : i < (l.length : Int)
  · rw [if_pos hlt, if_pos h0, w64 (n := i + 1) (by omega) (by omega)]
    exact ⟨_, _, _, rfl, (and255 _).1, (and255 _).2, by omega, by omega⟩
  · rw [if_neg hlt]
    exact ⟨_, _, _, rfl, (and255 _).1, (and255 _).2, h0, h1⟩

/-- A drawn number below n. -/
theorem draw_below (l : List Int) (hl : l.length ≤ 140737488355328) (i h : Int) (h0 : 0 ≤ i) (h1 : i ≤ l.length) (n : Int) (hn : 0 < n) :
    ∃ x i' h' : Int, spec_l01Below.f l i h n = some (x, i', h') ∧ 0 ≤ x ∧ x < n ∧ 0 ≤ i' ∧ i' ≤ l.length := by
  unfold spec_l01Below.f
  obtain ⟨x, i1, g1, e1, a1, b1, c1, d1⟩ := draw_byte l hl i h h0 h1
  rw [if_neg (by omega)]
  by_cases hs : n ≤ 256
  · rw [if_pos hs, e1]
    simp only [Option.bind_some]
    rw [if_neg (by omega), tmod_pos a1]
    exact ⟨_, _, _, rfl, Int.emod_nonneg _ (by omega), Int.emod_lt_of_pos _ hn, c1, d1⟩
  · obtain ⟨y, i2, g2, e2, a2, b2, c2, d2⟩ := draw_byte l hl i1 g1 c1 d1
    obtain ⟨z, i3, g3, e3, a3, b3, c3, d3⟩ := draw_byte l hl i2 g2 c2 d2
    obtain ⟨w, i4, g4, e4, a4, b4, c4, d4⟩ := draw_byte l hl i3 g3 c3 d3
    rw [if_neg hs, e1]
    simp only [Option.bind_some, e2, e3, e4]
    rw [w64 (n := x * 16777216) (by omega) (by omega), w64 (n := y * 65536) (by omega) (by omega), w64 (n := z * 256) (by omega) (by omega), w64 (n := x * 16777216 + y * 65536) (by omega) (by omega),
      w64 (n := x * 16777216 + y * 65536 + z * 256) (by omega) (by omega), w64 (n := x * 16777216 + y * 65536 + z * 256 + w) (by omega) (by omega), if_neg (by omega), tmod_pos (by omega)]
    exact ⟨_, _, _, rfl, Int.emod_nonneg _ (by omega), Int.emod_lt_of_pos _ hn, c4, d4⟩

theorem draw_new_loop (l : List Int) (hl : l.length ≤ 140737488355328) (d : Nat) : ∀ (k : Nat) (h i : Int), 0 ≤ i → i ≤ l.length → (l.length : Int) - i = d → d < k → ∃ h' : Int, spec_l01New.l0 k l h i = some (l, 0, h') := by
  induction d with
  | zero =>
    intro k h i h0 h1 hd hk
    obtain ⟨k, rfl⟩ : ∃ m, k = m + 1 := ⟨k - 1, by omega⟩
    simp only [spec_l01New.l0]
    rw [if_neg (by omega)]
    exact ⟨_, rfl⟩
  | succ d ih =>
    intro k h i h0 h1 hd hk
    obtain ⟨k, rfl⟩ : ∃ m, k = m + 1 := ⟨k - 1, by omega⟩
    simp only [spec_l01New.l0]
    have hlt : i < (l.length : Int) := by omega
    rw [if_pos hlt]
    by_cases h4 : i < 4000
    · rw [if_pos h4, if_pos h0, w64 (n := i + 1) (by omega) (by omega)]
      exact ih k _ (i + 1) (by omega) (by omega) (by omega) (by omega)
    · rw [if_neg h4]
      exact ⟨_, rfl⟩

theorem draw_new (l : List Int) (hl : l.length ≤ 140737488355328) (k : Nat) (hk : l.length < k) : ∃ h : Int, spec_l01New.f k l = some (l, 0, h) := by
  unfold spec_l01New.f
  exact draw_new_loop l hl l.length k _ 0 (by omega) (by omega) (by omega) hk

def Small (p : S34) : Prop := (-300 ≤ p.f0 ∧ p.f0 < 3300) ∧ -300 ≤ p.f1 ∧ p.f1 < 3300
theorem draw_point (l : List Int) (hl : l.length ≤ 140737488355328) (i h : Int) (h0 : 0 ≤ i) (h1 : i ≤ l.length) :
    ∃ x y i' h' : Int, spec_l04Point.f l i h = some (x, y, i', h') ∧ (-300 ≤ x ∧ x < 3300) ∧ (-300 ≤ y ∧ y < 3300) ∧ 0 ≤ i' ∧ i' ≤ l.length := by
  unfold spec_l04Point.f
  obtain ⟨x, i1, g1, e1, a1, b1, c1, d1⟩ := draw_below l hl i h h0 h1 3600 (by omega)
  obtain ⟨y, i2, g2, e2, a2, b2, c2, d2⟩ := draw_below l hl i1 g1 c1 d1 3600 (by omega)
  rw [e1]
  simp only [Option.bind_some, e2]
  rw [w64 (n := x - 300) (by omega) (by omega), w64 (n := y - 300) (by omega) (by omega)]
  exact ⟨_, _, _, _, rfl, by omega, by omega, c2, d2⟩
theorem draw_points_loop (l : List Int) (hl : l.length ≤ 140737488355328) (d : Nat) : ∀ (k : Nat) (acc : List S34) (j i h : Int), 0 ≤ i → i ≤ l.length → 8 - j = d → (acc.length : Int) = j → (∀ p ∈ acc, Small p) → d < k →
    ∃ r : List S34, spec_DrawPoints.l0 k acc j l i h = some r ∧ 4 ≤ r.length ∧ r.length ≤ 8 ∧ ∀ p ∈ r, Small p := by
  induction d with
  | zero =>
    intro k acc j i h h0 h1 hd hj hx hk
    obtain ⟨k, rfl⟩ : ∃ m, k = m + 1 := ⟨k - 1, by omega⟩
    simp only [spec_DrawPoints.l0]
    obtain ⟨x, i1, g1, e1, a1, b1, c1, d1⟩ := draw_below l hl i h h0 h1 5 (by omega)
    rw [e1, Option.bind_some, w64 (n := 4 + x) (by omega) (by omega), if_neg (by omega)]
    exact ⟨acc, rfl, by omega, by omega, hx⟩
  | succ d ih =>
    intro k acc j i h h0 h1 hd hj hx hk
    obtain ⟨k, rfl⟩ : ∃ m, k = m + 1 := ⟨k - 1, by omega⟩
    simp only [spec_DrawPoints.l0]
    obtain ⟨x, i1, g1, e1, a1, b1, c1, d1⟩ := draw_below l hl i h h0 h1 5 (by omega)
    rw [e1, Option.bind_some, w64 (n := 4 + x) (by omega) (by omega)]
    by_cases hlt : j < 4 + x
    · obtain ⟨u, v, i2, g2, e2, hu, hv, c2, d2⟩ := draw_point l hl i1 g1 c1 d1
      rw [if_pos hlt, e2, Option.bind_some, if_pos (by omega), w64 (n := j + 1) (by omega) (by omega)]
      refine ih k _ (j + 1) i2 g2 c2 d2 (by omega) (by simp only [List.length_append, List.length_cons, List.length_nil]; omega) (fun p hp => ?_) (by omega)
      rcases List.mem_append.1 hp with hp | hp
      · exact hx p hp
      · simp only [List.mem_singleton] at hp
        subst hp
        exact ⟨hu, hv⟩
    · rw [if_neg hlt]
      exact ⟨acc, rfl, by omega, by omega, hx⟩
theorem draw_points (l : List Int) (hl : l.length ≤ 140737488355328) (k : Nat) (hk : l.length + 9 < k) : ∃ r : List S34, spec_DrawPoints.f k l = some r ∧ 4 ≤ r.length ∧ r.length ≤ 8 ∧ ∀ p ∈ r, Small p := by
  unfold spec_DrawPoints.f
  obtain ⟨h, e⟩ := draw_new l hl k (by omega)
  rw [e]
  simp only [Option.bind_some]
  exact draw_points_loop l hl 8 k [] 0 0 h (by omega) (by omega) (by omega) rfl (fun p hp => by simp at hp) (by omega)

theorem mix16 {x lo hi : Int} (h1 : lo * 16 ≤ x) (h2 : x ≤ hi * 16) : lo ≤ rdiv x 16 ∧ rdiv x 16 ≤ hi := by
  unfold rdiv
  split <;> omega
theorem mix512 {x lo hi : Int} (h1 : lo * 512 ≤ x) (h2 : x ≤ hi * 512) : lo ≤ rdiv x 512 ∧ rdiv x 512 ≤ hi := by
  unfold rdiv
  split <;> omega
theorem weigh3v (k : Nat) (a0 a1 b0 b1 c0 c1 u v w : Int) (h1 : -1000000000 ≤ a0 * u ∧ a0 * u ≤ 1000000000) (h2 : -1000000000 ≤ b0 * v ∧ b0 * v ≤ 1000000000) (h3 : -1000000000 ≤ c0 * w ∧ c0 * w ≤ 1000000000)
    (g1 : -1000000000 ≤ a1 * u ∧ a1 * u ≤ 1000000000) (g2 : -1000000000 ≤ b1 * v ∧ b1 * v ≤ 1000000000) (g3 : -1000000000 ≤ c1 * w ∧ c1 * w ≤ 1000000000) :
    impl_weighed.l0 (k + 4) [u, v, w] 16 0 0 [⟨a0, a1⟩, ⟨b0, b1⟩, ⟨c0, c1⟩] 3 0 = some (rdiv (a0 * u + b0 * v + c0 * w) 16, rdiv (a1 * u + b1 * v + c1 * w) 16) := by
  have e1 : wrap64 (0 + 1) = 1 := by decide +kernel
  have e2 : wrap64 (1 + 1) = 2 := by decide +kernel
  have e3 : wrap64 (2 + 1) = 3 := by decide +kernel
  simp only [impl_weighed.l0, e1, e2, e3]
  simp [rd, rd_T34, wrap_wrap]
  generalize a0 * u = x1 at *
  generalize b0 * v = x2 at *
  generalize c0 * w = x3 at *
  generalize a1 * u = y1 at *
  generalize b1 * v = y2 at *
  generalize c1 * w = y3 at *
  rw [w64 (n := x1) (by omega) (by omega), w64 (n := x2) (by omega) (by omega), w64 (n := x3) (by omega) (by omega), w64 (n := x1 + x2) (by omega) (by omega), w64 (n := x1 + x2 + x3) (by omega) (by omega),
    w64 (n := y1) (by omega) (by omega), w64 (n := y2) (by omega) (by omega), w64 (n := y3) (by omega) (by omega), w64 (n := y1 + y2) (by omega) (by omega), w64 (n := y1 + y2 + y3) (by omega) (by omega),
    impl_round (by omega) (by omega) (by omega) (by omega), impl_round (by omega) (by omega) (by omega) (by omega)]
  rfl

theorem prod_in {x u : Int} (h0 : -300 ≤ x) (h1 : x < 3300) (g0 : 0 ≤ u) (g1 : u ≤ 512) : -10000000000 ≤ x * u ∧ x * u ≤ 10000000000 := by
  have a : x * u ≤ 3300 * u := Int.mul_le_mul_of_nonneg_right (by omega) g0
  have b : -300 * u ≤ x * u := Int.mul_le_mul_of_nonneg_right h0 g0
  omega
theorem avg_lo {lo a b c e u v w z : Int} (ha : lo ≤ a) (hb : lo ≤ b) (hc : lo ≤ c) (he : lo ≤ e) (hu : 0 ≤ u) (hv : 0 ≤ v) (hw : 0 ≤ w) (hz : 0 ≤ z) (hs : u + v + w + z = 512) : lo * 512 ≤ a * u + b * v + c * w + e * z := by
  have h1 := Int.mul_le_mul_of_nonneg_right ha hu
  have h2 := Int.mul_le_mul_of_nonneg_right hb hv
  have h3 := Int.mul_le_mul_of_nonneg_right hc hw
  have h4 := Int.mul_le_mul_of_nonneg_right he hz
  have h5 : lo * 512 = lo * u + lo * v + lo * w + lo * z := by rw [← hs, Int.mul_add, Int.mul_add, Int.mul_add]
  omega
theorem avg_hi {hi a b c e u v w z : Int} (ha : a ≤ hi) (hb : b ≤ hi) (hc : c ≤ hi) (he : e ≤ hi) (hu : 0 ≤ u) (hv : 0 ≤ v) (hw : 0 ≤ w) (hz : 0 ≤ z) (hs : u + v + w + z = 512) : a * u + b * v + c * w + e * z ≤ hi * 512 := by
  have h1 := Int.mul_le_mul_of_nonneg_right ha hu
  have h2 := Int.mul_le_mul_of_nonneg_right hb hv
  have h3 := Int.mul_le_mul_of_nonneg_right hc hw
  have h4 := Int.mul_le_mul_of_nonneg_right he hz
  have h5 : hi * 512 = hi * u + hi * v + hi * w + hi * z := by rw [← hs, Int.mul_add, Int.mul_add, Int.mul_add]
  omega
theorem weigh4v (k : Nat) (a0 a1 b0 b1 c0 c1 d0 d1 u v w z : Int) (h1 : -10000000000 ≤ a0 * u ∧ a0 * u ≤ 10000000000) (h2 : -10000000000 ≤ b0 * v ∧ b0 * v ≤ 10000000000) (h3 : -10000000000 ≤ c0 * w ∧ c0 * w ≤ 10000000000)
    (h4 : -10000000000 ≤ d0 * z ∧ d0 * z ≤ 10000000000) (g1 : -10000000000 ≤ a1 * u ∧ a1 * u ≤ 10000000000) (g2 : -10000000000 ≤ b1 * v ∧ b1 * v ≤ 10000000000) (g3 : -10000000000 ≤ c1 * w ∧ c1 * w ≤ 10000000000)
    (g4 : -10000000000 ≤ d1 * z ∧ d1 * z ≤ 10000000000) :
    impl_weighed.l0 (k + 5) [u, v, w, z] 512 0 0 [⟨a0, a1⟩, ⟨b0, b1⟩, ⟨c0, c1⟩, ⟨d0, d1⟩] 4 0 = some (rdiv (a0 * u + b0 * v + c0 * w + d0 * z) 512, rdiv (a1 * u + b1 * v + c1 * w + d1 * z) 512) := by
  have e1 : wrap64 (0 + 1) = 1 := by decide +kernel
  have e2 : wrap64 (1 + 1) = 2 := by decide +kernel
  have e3 : wrap64 (2 + 1) = 3 := by decide +kernel
  have e4 : wrap64 (3 + 1) = 4 := by decide +kernel
  simp only [impl_weighed.l0, e1, e2, e3, e4]
  simp [rd, rd_T34, wrap_wrap]
  generalize a0 * u = x1 at *
  generalize b0 * v = x2 at *
  generalize c0 * w = x3 at *
  generalize d0 * z = x4 at *
  generalize a1 * u = y1 at *
  generalize b1 * v = y2 at *
  generalize c1 * w = y3 at *
  generalize d1 * z = y4 at *
  rw [w64 (n := x1) (by omega) (by omega), w64 (n := x2) (by omega) (by omega), w64 (n := x3) (by omega) (by omega), w64 (n := x4) (by omega) (by omega), w64 (n := x1 + x2) (by omega) (by omega), w64 (n := x1 + x2 + x3) (by omega) (by omega), w64 (n := x1 + x2 + x3 + x4) (by omega) (by omega),
    w64 (n := y1) (by omega) (by omega), w64 (n := y2) (by omega) (by omega), w64 (n := y3) (by omega) (by omega), w64 (n := y4) (by omega) (by omega), w64 (n := y1 + y2) (by omega) (by omega), w64 (n := y1 + y2 + y3) (by omega) (by omega), w64 (n := y1 + y2 + y3 + y4) (by omega) (by omega),
    impl_round (by omega) (by omega) (by omega) (by omega), impl_round (by omega) (by omega) (by omega) (by omega)]
  rfl

theorem small_ok {p : S34} (h : Small p) : okP p = true := by
  obtain ⟨⟨a, b⟩, c, d⟩ := h
  unfold okP
  rw [farB_true.2 (by omega), farB_true.2 (by omega)]
  rfl

set_option maxHeartbeats 1000000 in
theorem quad_at (k : Nat) (a b c : S34) (ha : Small a) (hb : Small b) (hc : Small c) (i t : Int) (ht : clampI i 0 4 = t) (h0 : 0 ≤ t) (h4 : t ≤ 4) :
    ∃ x y : Int, impl_QuadAt.f (k + 4) a.f0 a.f1 b.f0 b.f1 c.f0 c.f1 i = some (x, y) ∧
      (∀ lo hi : Int, lo ≤ a.f0 → lo ≤ b.f0 → lo ≤ c.f0 → a.f0 ≤ hi → b.f0 ≤ hi → c.f0 ≤ hi → lo ≤ x ∧ x ≤ hi) ∧ (∀ lo hi : Int, lo ≤ a.f1 → lo ≤ b.f1 → lo ≤ c.f1 → a.f1 ≤ hi → b.f1 ≤ hi → c.f1 ≤ hi → lo ≤ y ∧ y ≤ hi) ∧
      (t = 0 → x = a.f0 ∧ y = a.f1) ∧ (t = 4 → x = c.f0 ∧ y = c.f1) := by
  unfold impl_QuadAt.f impl_weighed.f
  rw [impl_clamp, ht]
  simp only [Option.bind_some]
  rw [points_ok _ (by simp) _ (by simp)]
  have hall : ([(⟨a.f0, a.f1⟩ : S34), ⟨b.f0, b.f1⟩, ⟨c.f0, c.f1⟩] : List S34).all okP = true := by
    have e1 : okP ⟨a.f0, a.f1⟩ = true := small_ok ha
    have e2 : okP ⟨b.f0, b.f1⟩ = true := small_ok hb
    have e3 : okP ⟨c.f0, c.f1⟩ = true := small_ok hc
    simp [e1, e2, e3]
  rw [hall, Option.bind_some, if_pos rfl]
  obtain ⟨⟨p1, p2⟩, p3, p4⟩ := ha
  obtain ⟨⟨q1, q2⟩, q3, q4⟩ := hb
  obtain ⟨⟨r1, r2⟩, r3, r4⟩ := hc
  have fin : ∀ u v w : Int, 0 ≤ u → 0 ≤ v → 0 ≤ w → u + v + w = 16 → (t = 0 → u = 16) → (t = 4 → w = 16) →
      (u = 16 ∧ v = 0 ∧ w = 0 ∨ u = 9 ∧ v = 6 ∧ w = 1 ∨ u = 4 ∧ v = 8 ∧ w = 4 ∨ u = 1 ∧ v = 6 ∧ w = 9 ∨ u = 0 ∧ v = 0 ∧ w = 16) →
      [wrap64 (wrap64 (4 - t) * wrap64 (4 - t)), wrap64 (wrap64 (2 * t) * wrap64 (4 - t)), wrap64 (t * t)] = [u, v, w] →
      ∃ x y : Int, (impl_weighed.l0 (k + 4) [wrap64 (wrap64 (4 - t) * wrap64 (4 - t)), wrap64 (wrap64 (2 * t) * wrap64 (4 - t)), wrap64 (t * t)] 16 0 0 [⟨a.f0, a.f1⟩, ⟨b.f0, b.f1⟩, ⟨c.f0, c.f1⟩] 3 0).bind (fun bt => some (bt.1, bt.2)) = some (x, y) ∧
      (∀ lo hi : Int, lo ≤ a.f0 → lo ≤ b.f0 → lo ≤ c.f0 → a.f0 ≤ hi → b.f0 ≤ hi → c.f0 ≤ hi → lo ≤ x ∧ x ≤ hi) ∧ (∀ lo hi : Int, lo ≤ a.f1 → lo ≤ b.f1 → lo ≤ c.f1 → a.f1 ≤ hi → b.f1 ≤ hi → c.f1 ≤ hi → lo ≤ y ∧ y ≤ hi) ∧
      (t = 0 → x = a.f0 ∧ y = a.f1) ∧ (t = 4 → x = c.f0 ∧ y = c.f1) := by
    intro u v w hu hv hw hs t0 t4 hcs he
    rw [he]
    rcases hcs with ⟨rfl, rfl, rfl⟩ | ⟨rfl, rfl, rfl⟩ | ⟨rfl, rfl, rfl⟩ | ⟨rfl, rfl, rfl⟩ | ⟨rfl, rfl, rfl⟩
    all_goals
      rw [weigh3v k _ _ _ _ _ _ _ _ _ (by omega) (by omega) (by omega) (by omega) (by omega) (by omega)]
      refine ⟨_, _, rfl, fun lo hi g1 g2 g3 g4 g5 g6 => ?_, fun lo hi g1 g2 g3 g4 g5 g6 => ?_, fun ht0 => ?_, fun ht4 => ?_⟩
      · exact mix16 (by omega) (by omega)
      · exact mix16 (by omega) (by omega)
      · have hz := t0 ht0
        have x1 := mix16 (x := a.f0 * 16 + b.f0 * 0 + c.f0 * 0) (lo := a.f0) (hi := a.f0) (by omega) (by omega)
        have x2 := mix16 (x := a.f1 * 16 + b.f1 * 0 + c.f1 * 0) (lo := a.f1) (hi := a.f1) (by omega) (by omega)
        first
        | (exact absurd hz (by decide))
        | (constructor <;> omega)
      · have hz := t4 ht4
        have x1 := mix16 (x := a.f0 * 0 + b.f0 * 0 + c.f0 * 16) (lo := c.f0) (hi := c.f0) (by omega) (by omega)
        have x2 := mix16 (x := a.f1 * 0 + b.f1 * 0 + c.f1 * 16) (lo := c.f1) (hi := c.f1) (by omega) (by omega)
        first
        | (exact absurd hz (by decide))
        | (constructor <;> omega)
  have hc : t = 0 ∨ t = 1 ∨ t = 2 ∨ t = 3 ∨ t = 4 := by omega
  rcases hc with rfl | rfl | rfl | rfl | rfl
  · exact fin 16 0 0 (by omega) (by omega) (by omega) (by omega) (by omega) (by omega) (by omega) (by decide +kernel)
  · exact fin 9 6 1 (by omega) (by omega) (by omega) (by omega) (by omega) (by omega) (by omega) (by decide +kernel)
  · exact fin 4 8 4 (by omega) (by omega) (by omega) (by omega) (by omega) (by omega) (by omega) (by decide +kernel)
  · exact fin 1 6 9 (by omega) (by omega) (by omega) (by omega) (by omega) (by omega) (by omega) (by decide +kernel)
  · exact fin 0 0 16 (by omega) (by omega) (by omega) (by omega) (by omega) (by omega) (by omega) (by decide +kernel)

set_option maxHeartbeats 2000000 in
theorem cubic_at (k : Nat) (a b c e : S34) (ha : Small a) (hb : Small b) (hc : Small c) (he : Small e) (i : Int) (h0 : 0 ≤ i) (h8 : i ≤ 8) :
    ∃ x y : Int, impl_CubicAt.f (k + 5) a.f0 a.f1 b.f0 b.f1 c.f0 c.f1 e.f0 e.f1 i = some (x, y) ∧
      (∀ lo hi : Int, lo ≤ a.f0 → lo ≤ b.f0 → lo ≤ c.f0 → lo ≤ e.f0 → a.f0 ≤ hi → b.f0 ≤ hi → c.f0 ≤ hi → e.f0 ≤ hi → lo ≤ x ∧ x ≤ hi) ∧
      (∀ lo hi : Int, lo ≤ a.f1 → lo ≤ b.f1 → lo ≤ c.f1 → lo ≤ e.f1 → a.f1 ≤ hi → b.f1 ≤ hi → c.f1 ≤ hi → e.f1 ≤ hi → lo ≤ y ∧ y ≤ hi) ∧
      (i = 0 → x = a.f0 ∧ y = a.f1) ∧ (i = 8 → x = e.f0 ∧ y = e.f1) := by
  unfold impl_CubicAt.f impl_weighed.f
  rw [impl_clamp, clampI_self h0 h8]
  simp only [Option.bind_some]
  rw [points_ok _ (by simp) _ (by simp)]
  have hall : ([(⟨a.f0, a.f1⟩ : S34), ⟨b.f0, b.f1⟩, ⟨c.f0, c.f1⟩, ⟨e.f0, e.f1⟩] : List S34).all okP = true := by
    have e1 : okP ⟨a.f0, a.f1⟩ = true := small_ok ha
    have e2 : okP ⟨b.f0, b.f1⟩ = true := small_ok hb
    have e3 : okP ⟨c.f0, c.f1⟩ = true := small_ok hc
    have e4 : okP ⟨e.f0, e.f1⟩ = true := small_ok he
    simp [e1, e2, e3, e4]
  rw [hall, Option.bind_some, if_pos rfl]
  obtain ⟨⟨p1, p2⟩, p3, p4⟩ := ha
  obtain ⟨⟨q1, q2⟩, q3, q4⟩ := hb
  obtain ⟨⟨r1, r2⟩, r3, r4⟩ := hc
  obtain ⟨⟨s1, s2⟩, s3, s4⟩ := he
  have fin : ∀ u v w z : Int, 0 ≤ u → 0 ≤ v → 0 ≤ w → 0 ≤ z → u + v + w + z = 512 → (i = 0 → u = 512) → (i = 8 → z = 512) →
      [wrap64 (wrap64 (wrap64 (8 - i) * wrap64 (8 - i)) * wrap64 (8 - i)), wrap64 (wrap64 (wrap64 (3 * i) * wrap64 (8 - i)) * wrap64 (8 - i)), wrap64 (wrap64 (wrap64 (3 * i) * i) * wrap64 (8 - i)), wrap64 (wrap64 (i * i) * i)] = [u, v, w, z] →
      ∃ x y : Int, (impl_weighed.l0 (k + 5) [wrap64 (wrap64 (wrap64 (8 - i) * wrap64 (8 - i)) * wrap64 (8 - i)), wrap64 (wrap64 (wrap64 (3 * i) * wrap64 (8 - i)) * wrap64 (8 - i)), wrap64 (wrap64 (wrap64 (3 * i) * i) * wrap64 (8 - i)), wrap64 (wrap64 (i * i) * i)]
          512 0 0 [⟨a.f0, a.f1⟩, ⟨b.f0, b.f1⟩, ⟨c.f0, c.f1⟩, ⟨e.f0, e.f1⟩] 4 0).bind (fun bt => some (bt.1, bt.2)) = some (x, y) ∧
      (∀ lo hi : Int, lo ≤ a.f0 → lo ≤ b.f0 → lo ≤ c.f0 → lo ≤ e.f0 → a.f0 ≤ hi → b.f0 ≤ hi → c.f0 ≤ hi → e.f0 ≤ hi → lo ≤ x ∧ x ≤ hi) ∧
      (∀ lo hi : Int, lo ≤ a.f1 → lo ≤ b.f1 → lo ≤ c.f1 → lo ≤ e.f1 → a.f1 ≤ hi → b.f1 ≤ hi → c.f1 ≤ hi → e.f1 ≤ hi → lo ≤ y ∧ y ≤ hi) ∧
      (i = 0 → x = a.f0 ∧ y = a.f1) ∧ (i = 8 → x = e.f0 ∧ y = e.f1) := by
    intro u v w z hu hv hw0 hz hs t0 t8 hw
    rw [hw]
    clear hw
    have u5 : u ≤ 512 := by omega
    have v5 : v ≤ 512 := by omega
    have w5 : w ≤ 512 := by omega
    have z5 : z ≤ 512 := by omega
    rw [weigh4v k _ _ _ _ _ _ _ _ _ _ _ _ (prod_in p1 p2 hu u5) (prod_in q1 q2 hv v5) (prod_in r1 r2 hw0 w5) (prod_in s1 s2 hz z5) (prod_in p3 p4 hu u5) (prod_in q3 q4 hv v5) (prod_in r3 r4 hw0 w5) (prod_in s3 s4 hz z5)]
    refine ⟨_, _, rfl, fun lo hi g1 g2 g3 g4 g5 g6 g7 g8 => mix512 (avg_lo g1 g2 g3 g4 hu hv hw0 hz hs) (avg_hi g5 g6 g7 g8 hu hv hw0 hz hs),
      fun lo hi g1 g2 g3 g4 g5 g6 g7 g8 => mix512 (avg_lo g1 g2 g3 g4 hu hv hw0 hz hs) (avg_hi g5 g6 g7 g8 hu hv hw0 hz hs), fun ht0 => ?_, fun ht8 => ?_⟩
    · have e1 := t0 ht0
      obtain rfl : v = 0 := by omega
      obtain rfl : w = 0 := by omega
      obtain rfl : z = 0 := by omega
      subst e1
      simp only [Int.mul_zero, Int.add_zero]
      have x1 := mix512 (x := a.f0 * 512) (Int.le_refl _) (Int.le_refl _)
      have x2 := mix512 (x := a.f1 * 512) (Int.le_refl _) (Int.le_refl _)
      exact ⟨Int.le_antisymm x1.2 x1.1, Int.le_antisymm x2.2 x2.1⟩
    · have e1 := t8 ht8
      obtain rfl : v = 0 := by omega
      obtain rfl : w = 0 := by omega
      obtain rfl : u = 0 := by omega
      subst e1
      simp only [Int.mul_zero, Int.zero_add]
      have x1 := mix512 (x := e.f0 * 512) (Int.le_refl _) (Int.le_refl _)
      have x2 := mix512 (x := e.f1 * 512) (Int.le_refl _) (Int.le_refl _)
      exact ⟨Int.le_antisymm x1.2 x1.1, Int.le_antisymm x2.2 x2.1⟩
  have hcs : i = 0 ∨ i = 1 ∨ i = 2 ∨ i = 3 ∨ i = 4 ∨ i = 5 ∨ i = 6 ∨ i = 7 ∨ i = 8 := by omega
  rcases hcs with rfl | rfl | rfl | rfl | rfl | rfl | rfl | rfl | rfl
  · exact fin 512 0 0 0 (by decide) (by decide) (by decide) (by decide) (by decide) (by decide) (by decide) (by decide +kernel)
  · exact fin 343 147 21 1 (by decide) (by decide) (by decide) (by decide) (by decide) (by decide) (by decide) (by decide +kernel)
  · exact fin 216 216 72 8 (by decide) (by decide) (by decide) (by decide) (by decide) (by decide) (by decide) (by decide +kernel)
  · exact fin 125 225 135 27 (by decide) (by decide) (by decide) (by decide) (by decide) (by decide) (by decide) (by decide +kernel)
  · exact fin 64 192 192 64 (by decide) (by decide) (by decide) (by decide) (by decide) (by decide) (by decide) (by decide +kernel)
  · exact fin 27 135 225 125 (by decide) (by decide) (by decide) (by decide) (by decide) (by decide) (by decide) (by decide +kernel)
  · exact fin 8 72 216 216 (by decide) (by decide) (by decide) (by decide) (by decide) (by decide) (by decide) (by decide +kernel)
  · exact fin 1 21 147 343 (by decide) (by decide) (by decide) (by decide) (by decide) (by decide) (by decide) (by decide +kernel)
  · exact fin 0 0 0 512 (by decide) (by decide) (by decide) (by decide) (by decide) (by decide) (by decide) (by decide +kernel)

theorem inBox_text (b : B4) (x y : Int) (h : inB b x y) : spec_InBox.f b.1 b.2.1 b.2.2.1 b.2.2.2 x y = some true := by
  obtain ⟨h1, h2, h3, h4⟩ := h
  unfold spec_InBox.f
  rw [if_pos h1, if_pos h2, if_pos h3, decide_eq_true h4]

theorem small_c4 {p : S34} (h : Small p) : c4 p.f0 = p.f0 ∧ c4 p.f1 = p.f1 := by
  obtain ⟨⟨a, b⟩, c, d⟩ := h
  exact ⟨c4_self (by omega) (by omega), c4_self (by omega) (by omega)⟩

theorem curves_loop (a b c e : S34) (ha : Small a) (hb : Small b) (hc : Small c) (he : Small e) (t f : B4) (ta : inB t a.f0 a.f1) (tb : inB t b.f0 b.f1) (tc : inB t c.f0 c.f1)
    (fa : inB f a.f0 a.f1) (fb : inB f b.f0 b.f1) (fc : inB f c.f0 c.f1) (fe : inB f e.f0 e.f1) (d : Nat) : ∀ (k : Nat) (i : Int), 0 ≤ i → 9 - i = d → d + 10 < k →
    laws_FnCurves.l0 k i a.f0 a.f1 b.f0 b.f1 c.f0 c.f1 e.f0 e.f1 t.1 t.2.1 t.2.2.1 t.2.2.2 f.1 f.2.1 f.2.2.1 f.2.2.2 = some true := by
  simp only [inB] at ta tb tc fa fb fc fe
  induction d with
  | zero =>
    intro k i h0 hi hk
    obtain ⟨k, rfl⟩ : ∃ m, k = m + 6 := ⟨k - 6, by omega⟩
    rw [laws_FnCurves.l0, if_neg (by omega)]
    obtain ⟨x1, y1, q1, _, _, z1, _⟩ := quad_at (k + 1) a b c ha hb hc 0 0 (by decide) (by omega) (by omega)
    obtain ⟨x2, y2, q2, _, _, _, z2⟩ := quad_at (k + 1) a b c ha hb hc 4 4 (by decide) (by omega) (by omega)
    obtain ⟨x3, y3, q3, _, _, z3, _⟩ := cubic_at k a b c e ha hb hc he 0 (by omega) (by omega)
    obtain ⟨x4, y4, q4, _, _, _, z4⟩ := cubic_at k a b c e ha hb hc he 8 (by omega) (by omega)
    obtain ⟨x5, y5, q5, _, _, z5, _⟩ := quad_at (k + 1) a b c ha hb hc (-5) 0 (by decide) (by omega) (by omega)
    obtain ⟨x6, y6, q6, w6, w6', _, _⟩ := quad_at (k + 1) a a a ha ha ha 2 2 (by decide) (by omega) (by omega)
    have e1 := z1 rfl
    have e2 := z2 rfl
    have e3 := z3 rfl
    have e4 := z4 rfl
    have e5 := z5 rfl
    have e6 := w6 a.f0 a.f0 (by omega) (by omega) (by omega) (by omega) (by omega) (by omega)
    have e6' := w6' a.f1 a.f1 (by omega) (by omega) (by omega) (by omega) (by omega) (by omega)
    have f6 : x6 = a.f0 := by omega
    have f6' : y6 = a.f1 := by omega
    obtain ⟨rfl, rfl⟩ := e1
    obtain ⟨rfl, rfl⟩ := e2
    obtain ⟨rfl, rfl⟩ := e3
    obtain ⟨rfl, rfl⟩ := e4
    obtain ⟨rfl, rfl⟩ := e5
    subst f6
    subst f6'
    rw [q1]
    simp only [Option.bind_some, beq_self_eq_true, Bool.and_self, if_true]
    rw [q2]
    simp only [Option.bind_some, beq_self_eq_true, Bool.and_self, if_true]
    rw [q3]
    simp only [Option.bind_some, beq_self_eq_true, Bool.and_self, if_true]
    rw [q4]
    simp only [Option.bind_some, beq_self_eq_true, Bool.and_self, if_true]
    rw [q5]
    simp only [Option.bind_some, beq_self_eq_true, Bool.and_self, if_true]
    rw [q6]
    simp
  | succ d ih =>
    intro k i h0 hi hk
    obtain ⟨k, rfl⟩ : ∃ m, k = m + 6 := ⟨k - 6, by omega⟩
    rw [laws_FnCurves.l0, if_pos (by omega)]
    obtain ⟨x3, y3, q3, w3, w3', _, _⟩ := cubic_at k a b c e ha hb hc he i (by omega) (by omega)
    obtain ⟨r, g1, g2⟩ := cubic_both k a.f0 a.f1 b.f0 b.f1 c.f0 c.f1 e.f0 e.f1 i
    have hr : r = (x3, y3) := Option.some.inj (g2.symm.trans q3)
    subst hr
    have b3 := w3 f.1 (f.2.2.1 - 1) fa.1 fb.1 fc.1 fe.1 (by omega) (by omega) (by omega) (by omega)
    have b3' := w3' f.2.1 (f.2.2.2 - 1) (by omega) (by omega) (by omega) (by omega) (by omega) (by omega) (by omega) (by omega)
    have i3 := inBox_text f x3 y3 ⟨by omega, by omega, by omega, by omega⟩
    have hw : wrap64 (i + 1) = i + 1 := w64 (by omega) (by omega)
    have ihh := ih (k + 5) (i + 1) (by omega) (by omega) (by omega)
    by_cases h4 : i ≤ 4
    · obtain ⟨x1, y1, q1, w1, w1', _, _⟩ := quad_at (k + 1) a b c ha hb hc i i (clampI_self h0 h4) h0 h4
      have b1 := w1 t.1 (t.2.2.1 - 1) ta.1 tb.1 tc.1 (by omega) (by omega) (by omega)
      have b1' := w1' t.2.1 (t.2.2.2 - 1) (by omega) (by omega) (by omega) (by omega) (by omega) (by omega)
      have i1 := inBox_text t x1 y1 ⟨by omega, by omega, by omega, by omega⟩
      rw [if_pos h4, q1]
      simp only [Option.bind_some, i1, if_true]
      rw [q3]
      simp only [Option.bind_some, i3, if_true, g1, beq_self_eq_true, Bool.not_true, Bool.or_self, Bool.false_eq_true, if_false, hw]
      exact ihh
    · rw [if_neg h4, q3]
      simp only [Option.bind_some, i3, if_true, g1, beq_self_eq_true, Bool.not_true, Bool.or_self, Bool.false_eq_true, if_false, hw]
      exact ihh

theorem FnCurves : laws_FnCurves.Pure := by
  intro l _ hl _
  refine ⟨l.length + 40, ?_⟩
  unfold laws_FnCurves.f laws_big.f
  rw [Option.bind_some]
  by_cases hbig : decide ((l.length : Int) > 1048576) = true
  · rw [if_pos hbig]
  · rw [if_neg hbig]
    clear hbig
    obtain ⟨r, e, h4, h8, hx⟩ := draw_points l (by omega) (l.length + 40) (by omega)
    rw [e, Option.bind_some, if_pos (by omega), if_pos (by omega), if_pos (by omega), if_pos (by omega)]
    have s0 : Small (rd_T34 r 0) := by rw [show (0 : Int) = ((0 : Nat) : Int) from rfl, rdP r 0 (by omega)]; exact hx _ (List.getElem_mem _)
    have s1 : Small (rd_T34 r 1) := by rw [show (1 : Int) = ((1 : Nat) : Int) from rfl, rdP r 1 (by omega)]; exact hx _ (List.getElem_mem _)
    have s2 : Small (rd_T34 r 2) := by rw [show (2 : Int) = ((2 : Nat) : Int) from rfl, rdP r 2 (by omega)]; exact hx _ (List.getElem_mem _)
    have s3 : Small (rd_T34 r 3) := by rw [show (3 : Int) = ((3 : Nat) : Int) from rfl, rdP r 3 (by omega)]; exact hx _ (List.getElem_mem _)
    generalize rd_T34 r 0 = a at *
    generalize rd_T34 r 1 = b at *
    generalize rd_T34 r 2 = c at *
    generalize rd_T34 r 3 = d at *
    rw [spec_box _ (by simp) _ (by simp), Option.bind_some, spec_box _ (by simp) _ (by simp), Option.bind_some]
    have has : ∀ (ps : List S34) (p : S34), p ∈ ps → Small p → inB (boxL ps) p.f0 p.f1 := by
      intro ps p hp hs
      have h := boxL_has ps (0, 0, 0, 0) p hp
      rw [(small_c4 hs).1, (small_c4 hs).2] at h
      exact h
    have m : ∀ p : S34, (⟨p.f0, p.f1⟩ : S34) = p := fun p => rfl
    exact curves_loop a b c d s0 s1 s2 s3 _ _ (has _ a (by simp [m]) s0) (has _ b (by simp [m]) s1) (has _ c (by simp [m]) s2) (has _ a (by simp [m]) s0) (has _ b (by simp [m]) s1) (has _ c (by simp [m]) s2) (has _ d (by simp [m]) s3) 9 _ 0 (by omega) (by omega) (by omega)
end Go.Proofs.Ytpemfeobcbpjdaa.Pure
