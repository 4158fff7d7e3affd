/- FnPointBoxes: the box of drawn points holds each of them and touches one; its squares hold the points' squares; for every code. -/
import Derived.Test.YtdlocaecdlgnjaaQFnPointBoxesx1
import Derived.Test.YtdlocaecdlgnjaaQFnPointBoxesx2
import Derived.Test.YtdlocaecdlgnjaaQFnPointBoxesx3
import Derived.Test.YtdlocaecdlgnjaaQFnPointBoxesx4
import Derived.Test.YtdlocaecdlgnjaaQFnPointBoxesx5
import Derived.Test.YtdlocaecdlgnjaaQFnPointBoxesx6
import Derived.Test.YtdlocaecdlgnjaaPlain
namespace Go.Proofs.Ytdlocaecdlgnjaa.Pure
open Go.RowKit Go.Proofs.Ytdlocaecdlgnjaa.PFnPointBoxes Go.Proofs.Ytdlocaecdlgnjaa.Plain Go.Proofs.YtdlocaecdlgnjaaW.PrintWords Go.Proofs.YtdlocaecdlgnjaaW.PrintLast

theorem spec_clamp (x lo hi : Int) : spec_Clamp.f x lo hi = some (clampI x lo hi) := by
  unfold spec_Clamp.f
  exact clampI_text x lo hi

theorem impl_clamp (x lo hi : Int) : impl_Clamp.f x lo hi = some (clampI x lo hi) := by
  unfold impl_Clamp.f
  exact clampI_text x lo hi

theorem spec_empty (a b c d : Int) : spec_Empty.f a b c d = some (emB a b c d) := by
  unfold spec_Empty.f
  exact emB_text a b c d

theorem impl_empty (a b c d : Int) : impl_Empty.f a b c d = some (emB a b c d) := by
  unfold impl_Empty.f
  exact emB_text a b c d

theorem spec_most (a b : Int) : spec_l05Most.f a b = some (mx a b) := by
  unfold spec_l05Most.f mx
  by_cases h : a < b
  · rw [if_neg (by omega), if_pos h]
  · rw [if_neg h]
    by_cases e : b < a
    · rw [if_pos (by omega)]
    · rw [if_neg (by omega), show a = b by omega]
theorem spec_least (a b : Int) : spec_l05Least.f a b = some (mn a b) := by
  unfold spec_l05Least.f mn
  by_cases h : b < a
  · rw [if_neg (by omega), if_pos h]
  · rw [if_neg h]
    by_cases e : a < b
    · rw [if_pos (by omega)]
    · rw [if_neg (by omega), show a = b by omega]

def joinB (a b : Int × Int × Int × Int) : Int × Int × Int × Int :=
  if emB a.1 a.2.1 a.2.2.1 a.2.2.2 && emB b.1 b.2.1 b.2.2.1 b.2.2.2 then (0, 0, 0, 0) else if emB a.1 a.2.1 a.2.2.1 a.2.2.2 then b else if emB b.1 b.2.1 b.2.2.1 b.2.2.2 then a
  else (mn a.1 b.1, mn a.2.1 b.2.1, mx a.2.2.1 b.2.2.1, mx a.2.2.2 b.2.2.2)

theorem spec_join (k : Nat) (a0 a1 a2 a3 b0 b1 b2 b3 : Int) : spec_JoinBox.f (k + 1) a0 a1 a2 a3 b0 b1 b2 b3 = some (joinB (a0, a1, a2, a3) (b0, b1, b2, b3)) := by
  unfold spec_JoinBox.f joinB
  simp only [spec_empty, Option.bind_some, spec_JoinBox.j0, spec_most, spec_least]
  cases emB a0 a1 a2 a3 <;> cases emB b0 b1 b2 b3 <;> simp

theorem impl_join (k : Nat) (a0 a1 a2 a3 b0 b1 b2 b3 : Int) : impl_JoinBox.f (k + 1) a0 a1 a2 a3 b0 b1 b2 b3 = some (joinB (a0, a1, a2, a3) (b0, b1, b2, b3)) := by
  unfold impl_JoinBox.f joinB
  simp only [impl_empty, Option.bind_some, impl_JoinBox.j0]
  cases emB a0 a1 a2 a3 <;> cases emB b0 b1 b2 b3 <;> simp

def c4 (x : Int) : Int := clampI x (-33554432) 33554432
theorem c4_in (x : Int) : -33554432 ≤ c4 x ∧ c4 x ≤ 33554432 := clampI_in (by omega)
theorem spec_c4 (x : Int) : spec_l05Clamp.f x = some (c4 x) := by
  unfold spec_l05Clamp.f
  rw [spec_clamp]
  rfl
theorem impl_c4 (x : Int) : impl_taken.f x 33554432 = some (c4 x) := by
  unfold impl_taken.f
  rw [w64 (by omega) (by omega), impl_clamp]
  rfl

theorem impl_near4 (a b c d : Int) : impl_near.f a b c d = some (c4 a, c4 b, c4 c, c4 d) := by
  unfold impl_near.f
  simp only [impl_c4, Option.bind_some]

theorem spec_floor {a b : Int} (hb : 0 < b) (h0 : -4611686018427387904 ≤ a) (h1 : a ≤ 4611686018427387904) : spec_FloorDiv.f a b = some (a / b) := by
  unfold spec_FloorDiv.f
  exact floor_text hb h0 h1

theorem impl_floor {a b : Int} (hb : 0 < b) (h0 : -4611686018427387904 ≤ a) (h1 : a ≤ 4611686018427387904) : impl_FloorDiv.f a b = some (a / b) := by
  unfold impl_FloorDiv.f
  exact floor_text hb h0 h1

theorem rdP (l : List S24) (i : Nat) (h : i < l.length) : rd_T24 l (i : Int) = l[i] := by
  unfold rd_T24
  rw [show ((i : Int)).toNat = i by omega, List.getD_eq_getElem?_getD, List.getElem?_eq_getElem h]
  rfl

abbrev B4 := Int × Int × Int × Int
def inB (b : B4) (x y : Int) : Prop := b.1 ≤ x ∧ x < b.2.2.1 ∧ b.2.1 ≤ y ∧ y < b.2.2.2
theorem inB_left {a b : B4} {x y : Int} (h : inB a x y) : inB (joinB a b) x y := by
  obtain ⟨a0, a1, a2, a3⟩ := a
  obtain ⟨b0, b1, b2, b3⟩ := b
  simp only [inB] at h ⊢
  have ha : emB a0 a1 a2 a3 = false := emB_false.2 (by omega)
  unfold joinB
  simp only [ha]
  cases hb : emB b0 b1 b2 b3
  · simp only [Bool.and_self, Bool.false_eq_true, if_false, mn, mx]
    refine ⟨?_, ?_, ?_, ?_⟩ <;> split <;> omega
  · simpa using h
theorem inB_right {a b : B4} {x y : Int} (h : inB b x y) : inB (joinB a b) x y := by
  obtain ⟨a0, a1, a2, a3⟩ := a
  obtain ⟨b0, b1, b2, b3⟩ := b
  simp only [inB] at h ⊢
  have hb : emB b0 b1 b2 b3 = false := emB_false.2 (by omega)
  unfold joinB
  simp only [hb]
  cases ha : emB a0 a1 a2 a3
  · simp only [Bool.and_self, Bool.false_eq_true, if_false, mn, mx]
    refine ⟨?_, ?_, ?_, ?_⟩ <;> split <;> omega
  · simpa using h
def oneB (p : S24) : B4 := (c4 p.f0, c4 p.f1, c4 p.f0 + 1, c4 p.f1 + 1)
def boxFrom (b : B4) (l : List S24) : B4 := l.foldl (fun b p => joinB b (oneB p)) b
def boxL (l : List S24) : B4 := boxFrom (0, 0, 0, 0) l
theorem boxFrom_in (l : List S24) : ∀ (b : B4) (x y : Int), inB b x y → inB (boxFrom b l) x y := by
  induction l with
  | nil => intro b x y h; exact h
  | cons p l ih => intro b x y h; exact ih _ x y (inB_left h)
theorem boxL_has (l : List S24) : ∀ (b : B4) (p : S24), p ∈ l → inB (boxFrom b l) (c4 p.f0) (c4 p.f1) := by
  induction l with
  | nil => intro b p h; simp at h
  | cons q l ih =>
    intro b p h
    rcases List.mem_cons.1 h with rfl | h
    · refine boxFrom_in l _ _ _ (inB_right ?_)
      simp only [inB, oneB]
      omega
    · exact ih _ p h
theorem spec_box_loop (l : List S24) (hl : l.length ≤ 9223372036854775806) (d : Nat) : ∀ (k i : Nat) (b : B4), l.length - i = d → i ≤ l.length → d + 1 < k → spec_BoxOf.l0 k l (i : Int) b.1 b.2.1 b.2.2.1 b.2.2.2 = some (boxFrom b (l.drop i)) := by
  induction d with
  | zero =>
    intro k i b hd hi hk
    obtain ⟨k, rfl⟩ : ∃ m, k = m + 1 := ⟨k - 1, by omega⟩
    simp only [spec_BoxOf.l0]
    rw [if_neg (by omega), List.drop_of_length_le (by omega)]
    rfl
  | succ d ih =>
    intro k i b hd hi hk
    obtain ⟨k, rfl⟩ : ∃ m, k = m + 2 := ⟨k - 2, by omega⟩
    rw [spec_BoxOf.l0]
    have hlt : i < l.length := by omega
    have c1 : (i : Int) < (l.length : Int) := by omega
    have c2 : (0 : Int) ≤ (i : Int) := by omega
    have h0 := c4_in l[i].f0
    have h1 := c4_in l[i].f1
    rw [if_pos c1, if_pos c2, rdP l i hlt, spec_c4, Option.bind_some, spec_c4, Option.bind_some, w64 (n := c4 l[i].f0 + 1) (by omega) (by omega), w64 (n := c4 l[i].f1 + 1) (by omega) (by omega), spec_join, Option.bind_some,
      w64 (n := (i : Int) + 1) (by omega) (by omega), show (i : Int) + 1 = ((i + 1 : Nat) : Int) by omega, ih (k + 1) (i + 1) _ (by omega) (by omega) (by omega), List.drop_eq_getElem_cons hlt]
    rfl
theorem spec_box (l : List S24) (hl : l.length ≤ 9223372036854775806) (k : Nat) (hk : l.length + 1 < k) : spec_BoxOf.f k l = some (boxL l) := by
  unfold spec_BoxOf.f
  have := spec_box_loop l hl l.length k 0 (0, 0, 0, 0) (by omega) (by omega) hk
  simpa [boxL] using this

theorem impl_box_loop (l : List S24) (hl : l.length ≤ 9223372036854775806) (d : Nat) : ∀ (k i : Nat) (b : B4), 0 < i → l.length - i = d → i ≤ l.length → d + 1 < k → impl_BoxOf.l0 k l (l.length : Int) (i : Int) b.1 b.2.1 b.2.2.1 b.2.2.2 = some (boxFrom b (l.drop i)) := by
  induction d with
  | zero =>
    intro k i b hp hd hi hk
    obtain ⟨k, rfl⟩ : ∃ m, k = m + 1 := ⟨k - 1, by omega⟩
    simp only [impl_BoxOf.l0]
    rw [if_neg (by omega), List.drop_of_length_le (by omega)]
    rfl
  | succ d ih =>
    intro k i b hp hd hi hk
    obtain ⟨k, rfl⟩ : ∃ m, k = m + 2 := ⟨k - 2, by omega⟩
    rw [impl_BoxOf.l0]
    have hlt : i < l.length := by omega
    have c1 : (i : Int) < (l.length : Int) := by omega
    have c2 : (0 : Int) ≤ (i : Int) := by omega
    have h0 := c4_in l[i].f0
    have h1 := c4_in l[i].f1
    rw [if_pos c1, if_pos c2, if_pos c1, rdP l i hlt, impl_c4, Option.bind_some, impl_c4, Option.bind_some, if_neg (show ¬ (i : Int) = 0 by omega), w64 (n := c4 l[i].f0 + 1) (by omega) (by omega), w64 (n := c4 l[i].f1 + 1) (by omega) (by omega), impl_join, Option.bind_some,
      w64 (n := (i : Int) + 1) (by omega) (by omega), show (i : Int) + 1 = ((i + 1 : Nat) : Int) by omega, ih (k + 1) (i + 1) _ (by omega) (by omega) (by omega) (by omega), List.drop_eq_getElem_cons hlt]
    rfl
theorem join_one (p : S24) : joinB (oneB p) (oneB p) = oneB p ∧ joinB (0, 0, 0, 0) (oneB p) = oneB p := by
  have e : emB (c4 p.f0) (c4 p.f1) (c4 p.f0 + 1) (c4 p.f1 + 1) = false := emB_false.2 (by omega)
  have e0 : emB 0 0 0 0 = true := rfl
  constructor
  · unfold joinB oneB
    simp only [e, Bool.and_self, Bool.false_eq_true, if_false, mn, mx]
    simp
  · unfold joinB oneB
    simp only [e, e0, Bool.and_false, Bool.false_eq_true, if_false, if_true]
theorem impl_box (l : List S24) (hl : l.length ≤ 9223372036854775806) (k : Nat) (hk : l.length + 2 < k) : impl_BoxOf.f k l = some (boxL l) := by
  unfold impl_BoxOf.f
  obtain ⟨k, rfl⟩ : ∃ m, k = m + 2 := ⟨k - 2, by omega⟩
  match l, hl, hk with
  | [], _, _ => simp [impl_BoxOf.l0, boxL, boxFrom]
  | p :: l, hl, hk =>
    rw [impl_BoxOf.l0]
    have h0 := c4_in p.f0
    have h1 := c4_in p.f1
    have e : rd_T24 (p :: l) 0 = p := rfl
    simp only [List.length_cons] at hl hk
    rw [if_pos (by simp only [List.length_cons]; omega), if_pos (by omega), if_pos (by simp only [List.length_cons]; omega), e, impl_c4, Option.bind_some, impl_c4, Option.bind_some, if_pos rfl, w64 (n := c4 p.f0 + 1) (by omega) (by omega), w64 (n := c4 p.f1 + 1) (by omega) (by omega), impl_join, Option.bind_some,
      w64 (n := 0 + 1) (by omega) (by omega), show (0 : Int) + 1 = ((1 : Nat) : Int) by omega, impl_box_loop (p :: l) (by simp only [List.length_cons]; omega) l.length (k + 1) 1 _ (by omega) (by simp) (by simp) (by omega)]
    have j1 : joinB (c4 p.f0, c4 p.f1, c4 p.f0 + 1, c4 p.f1 + 1) (c4 p.f0, c4 p.f1, c4 p.f0 + 1, c4 p.f1 + 1) = oneB p := (join_one p).1
    rw [j1]
    show some (boxFrom (oneB p) l) = some (boxFrom (joinB (0, 0, 0, 0) (oneB p)) l)
    rw [(join_one p).2]

/-- A draw of one byte, wherever the reader stands. -/
theorem draw_byte (l : List Int) (hl : l.length ≤ 140737488355328) (i h : Int) (h0 : 0 ≤ i) (h1 : i ≤ l.length) :
    ∃ x i' h' : Int, spec_l01Byte.f l i h = some (x, i', h') ∧ 0 ≤ x ∧ x < 256 ∧ 0 ≤ i' ∧ i' ≤ l.length := by
  unfold spec_l01Byte.f
  by_cases hlt : i < (l.length : Int)
  · rw [if_pos hlt, if_pos h0, w64 (n := i + 1) (by omega) (by omega)]
    exact ⟨_, _, _, rfl, (and255 _).1, (and255 _).2, by omega, by omega⟩
  · rw [if_neg hlt]
    exact ⟨_, _, _, rfl, (and255 _).1, (and255 _).2, h0, h1⟩

/-- A drawn number below n. -/
theorem draw_below (l : List Int) (hl : l.length ≤ 140737488355328) (i h : Int) (h0 : 0 ≤ i) (h1 : i ≤ l.length) (n : Int) (hn : 0 < n) :
    ∃ x i' h' : Int, spec_l01Below.f l i h n = some (x, i', h') ∧ 0 ≤ x ∧ x < n ∧ 0 ≤ i' ∧ i' ≤ l.length := by
  unfold spec_l01Below.f
  obtain ⟨x, i1, g1, e1, a1, b1, c1, d1⟩ := draw_byte l hl i h h0 h1
  rw [if_neg (by omega)]
  by_cases hs : n ≤ 256
  · rw [if_pos hs, e1]
    simp only [Option.bind_some]
    rw [if_neg (by omega), tmod_pos a1]
    exact ⟨_, _, _, rfl, Int.emod_nonneg _ (by omega), Int.emod_lt_of_pos _ hn, c1, d1⟩
  · obtain ⟨y, i2, g2, e2, a2, b2, c2, d2⟩ := draw_byte l hl i1 g1 c1 d1
    obtain ⟨z, i3, g3, e3, a3, b3, c3, d3⟩ := draw_byte l hl i2 g2 c2 d2
    obtain ⟨w, i4, g4, e4, a4, b4, c4, d4⟩ := draw_byte l hl i3 g3 c3 d3
    rw [if_neg hs, e1]
    simp only [Option.bind_some, e2, e3, e4]
    rw [w64 (n := x * 16777216) (by omega) (by omega), w64 (n := y * 65536) (by omega) (by omega), w64 (n := z * 256) (by omega) (by omega), w64 (n := x * 16777216 + y * 65536) (by omega) (by omega),
      w64 (n := x * 16777216 + y * 65536 + z * 256) (by omega) (by omega), w64 (n := x * 16777216 + y * 65536 + z * 256 + w) (by omega) (by omega), if_neg (by omega), tmod_pos (by omega)]
    exact ⟨_, _, _, rfl, Int.emod_nonneg _ (by omega), Int.emod_lt_of_pos _ hn, c4, d4⟩

theorem draw_new_loop (l : List Int) (hl : l.length ≤ 140737488355328) (d : Nat) : ∀ (k : Nat) (h i : Int), 0 ≤ i → i ≤ l.length → (l.length : Int) - i = d → d < k → ∃ h' : Int, spec_l01New.l0 k l h i = some (l, 0, h') := by
  induction d with
  | zero =>
    intro k h i h0 h1 hd hk
    obtain ⟨k, rfl⟩ : ∃ m, k = m + 1 := ⟨k - 1, by omega⟩
    simp only [spec_l01New.l0]
    rw [if_neg (by omega)]
    exact ⟨_, rfl⟩
  | succ d ih =>
    intro k h i h0 h1 hd hk
    obtain ⟨k, rfl⟩ : ∃ m, k = m + 1 := ⟨k - 1, by omega⟩
    simp only [spec_l01New.l0]
    have hlt : i < (l.length : Int) := by omega
    rw [if_pos hlt]
    by_cases h4 : i < 4000
    · rw [if_pos h4, if_pos h0, w64 (n := i + 1) (by omega) (by omega)]
      exact ih k _ (i + 1) (by omega) (by omega) (by omega) (by omega)
    · rw [if_neg h4]
      exact ⟨_, rfl⟩

theorem draw_new (l : List Int) (hl : l.length ≤ 140737488355328) (k : Nat) (hk : l.length < k) : ∃ h : Int, spec_l01New.f k l = some (l, 0, h) := by
  unfold spec_l01New.f
  exact draw_new_loop l hl l.length k _ 0 (by omega) (by omega) (by omega) hk

def Small (p : S24) : Prop := (-300 ≤ p.f0 ∧ p.f0 < 3300) ∧ -300 ≤ p.f1 ∧ p.f1 < 3300
theorem draw_point (l : List Int) (hl : l.length ≤ 140737488355328) (i h : Int) (h0 : 0 ≤ i) (h1 : i ≤ l.length) :
    ∃ x y i' h' : Int, spec_l04Point.f l i h = some (x, y, i', h') ∧ (-300 ≤ x ∧ x < 3300) ∧ (-300 ≤ y ∧ y < 3300) ∧ 0 ≤ i' ∧ i' ≤ l.length := by
  unfold spec_l04Point.f
  obtain ⟨x, i1, g1, e1, a1, b1, c1, d1⟩ := draw_below l hl i h h0 h1 3600 (by omega)
  obtain ⟨y, i2, g2, e2, a2, b2, c2, d2⟩ := draw_below l hl i1 g1 c1 d1 3600 (by omega)
  rw [e1]
  simp only [Option.bind_some, e2]
  rw [w64 (n := x - 300) (by omega) (by omega), w64 (n := y - 300) (by omega) (by omega)]
  exact ⟨_, _, _, _, rfl, by omega, by omega, c2, d2⟩
theorem draw_points_loop (l : List Int) (hl : l.length ≤ 140737488355328) (d : Nat) : ∀ (k : Nat) (acc : List S24) (j i h : Int), 0 ≤ i → i ≤ l.length → 8 - j = d → (acc.length : Int) = j → (∀ p ∈ acc, Small p) → d < k →
    ∃ r : List S24, spec_DrawPoints.l0 k acc j l i h = some r ∧ 4 ≤ r.length ∧ r.length ≤ 8 ∧ ∀ p ∈ r, Small p := by
  induction d with
  | zero =>
    intro k acc j i h h0 h1 hd hj hx hk
    obtain ⟨k, rfl⟩ : ∃ m, k = m + 1 := ⟨k - 1, by omega⟩
    simp only [spec_DrawPoints.l0]
    obtain ⟨x, i1, g1, e1, a1, b1, c1, d1⟩ := draw_below l hl i h h0 h1 5 (by omega)
    rw [e1, Option.bind_some, w64 (n := 4 + x) (by omega) (by omega), if_neg (by omega)]
    exact ⟨acc, rfl, by omega, by omega, hx⟩
  | succ d ih =>
    intro k acc j i h h0 h1 hd hj hx hk
    obtain ⟨k, rfl⟩ : ∃ m, k = m + 1 := ⟨k - 1, by omega⟩
    simp only [spec_DrawPoints.l0]
    obtain ⟨x, i1, g1, e1, a1, b1, c1, d1⟩ := draw_below l hl i h h0 h1 5 (by omega)
    rw [e1, Option.bind_some, w64 (n := 4 + x) (by omega) (by omega)]
    by_cases hlt : j < 4 + x
    · obtain ⟨u, v, i2, g2, e2, hu, hv, c2, d2⟩ := draw_point l hl i1 g1 c1 d1
      rw [if_pos hlt, e2, Option.bind_some, if_pos (by omega), w64 (n := j + 1) (by omega) (by omega)]
      refine ih k _ (j + 1) i2 g2 c2 d2 (by omega) (by simp only [List.length_append, List.length_cons, List.length_nil]; omega) (fun p hp => ?_) (by omega)
      rcases List.mem_append.1 hp with hp | hp
      · exact hx p hp
      · simp only [List.mem_singleton] at hp
        subst hp
        exact ⟨hu, hv⟩
    · rw [if_neg hlt]
      exact ⟨acc, rfl, by omega, by omega, hx⟩
theorem draw_points (l : List Int) (hl : l.length ≤ 140737488355328) (k : Nat) (hk : l.length + 9 < k) : ∃ r : List S24, spec_DrawPoints.f k l = some r ∧ 4 ≤ r.length ∧ r.length ≤ 8 ∧ ∀ p ∈ r, Small p := by
  unfold spec_DrawPoints.f
  obtain ⟨h, e⟩ := draw_new l hl k (by omega)
  rw [e]
  simp only [Option.bind_some]
  exact draw_points_loop l hl 8 k [] 0 0 h (by omega) (by omega) (by omega) rfl (fun p hp => by simp at hp) (by omega)

theorem c4_same {x : Int} (h0 : -33554432 ≤ x) (h1 : x ≤ 33554432) : c4 x = x := clampI_self h0 h1
/-- A box that is not empty and near the drawn points. -/
def Fit (b : B4) : Prop := emB b.1 b.2.1 b.2.2.1 b.2.2.2 = false ∧ (-300 ≤ b.1 ∧ b.1 ≤ 3300) ∧ (-300 ≤ b.2.1 ∧ b.2.1 ≤ 3300) ∧ (-300 ≤ b.2.2.1 ∧ b.2.2.1 ≤ 3300) ∧ -300 ≤ b.2.2.2 ∧ b.2.2.2 ≤ 3300
theorem oneB_small {p : S24} (h : Small p) : oneB p = (p.f0, p.f1, p.f0 + 1, p.f1 + 1) := by
  obtain ⟨⟨a, b⟩, c, d⟩ := h
  unfold oneB
  rw [c4_same (by omega) (by omega), c4_same (by omega) (by omega)]
theorem fit_one {p : S24} (h : Small p) : Fit (oneB p) := by
  rw [oneB_small h]
  obtain ⟨⟨a, b⟩, c, d⟩ := h
  exact ⟨emB_false.2 ⟨by simp only; omega, by simp only; omega⟩, ⟨by simp only; omega, by simp only; omega⟩, ⟨by simp only; omega, by simp only; omega⟩, ⟨by simp only; omega, by simp only; omega⟩, by simp only; omega, by simp only; omega⟩
theorem fit_join {b : B4} {p : S24} (hb : Fit b) (h : Small p) : Fit (joinB b (oneB p)) ∧ ((joinB b (oneB p)).1 = b.1 ∨ (joinB b (oneB p)).1 = p.f0) := by
  obtain ⟨b0, b1, b2, b3⟩ := b
  rw [oneB_small h]
  obtain ⟨⟨a, b⟩, c, d⟩ := h
  obtain ⟨he, h1, h2, h3, h4⟩ := hb
  simp only at he h1 h2 h3 h4
  have ep : emB p.f0 p.f1 (p.f0 + 1) (p.f1 + 1) = false := emB_false.2 ⟨by omega, by omega⟩
  have e1 := emB_false.1 he
  unfold joinB Fit
  simp only [he, ep, Bool.and_self, Bool.false_eq_true, if_false]
  refine ⟨⟨emB_false.2 ⟨?_, ?_⟩, ⟨?_, ?_⟩, ⟨?_, ?_⟩, ⟨?_, ?_⟩, ?_, ?_⟩, ?_⟩ <;> (try unfold mn) <;> (try unfold mx) <;> (repeat' split) <;> (try omega) <;> simp
theorem fit_from (l : List S24) : ∀ (b : B4), Fit b → (∀ p ∈ l, Small p) → Fit (boxFrom b l) ∧ ((boxFrom b l).1 = b.1 ∨ ∃ p ∈ l, p.f0 = (boxFrom b l).1) := by
  induction l with
  | nil => intro b hb _; exact ⟨hb, Or.inl rfl⟩
  | cons q l ih =>
    intro b hb hx
    have hq := fit_join hb (hx q (by simp))
    have h := ih (joinB b (oneB q)) hq.1 (fun p hp => hx p (by simp [hp]))
    refine ⟨h.1, ?_⟩
    show (boxFrom (joinB b (oneB q)) l).1 = b.1 ∨ ∃ p ∈ q :: l, p.f0 = (boxFrom (joinB b (oneB q)) l).1
    rcases h.2 with e | ⟨p, hp, e⟩
    · rcases hq.2 with f | f
      · exact Or.inl (e.trans f)
      · exact Or.inr ⟨q, by simp, (e.trans f).symm⟩
    · exact Or.inr ⟨p, by simp [hp], e⟩
theorem fit_box (l : List S24) (h : 0 < l.length) (hx : ∀ p ∈ l, Small p) : Fit (boxL l) ∧ ∃ p ∈ l, p.f0 = (boxL l).1 := by
  match l, h, hx with
  | p :: l, _, hx =>
    have hp := hx p (by simp)
    have e : boxL (p :: l) = boxFrom (oneB p) l := by
      show boxFrom (joinB (0, 0, 0, 0) (oneB p)) l = boxFrom (oneB p) l
      rw [(join_one p).2]
    rw [e]
    have h := fit_from l (oneB p) (fit_one hp) (fun q hq => hx q (by simp [hq]))
    refine ⟨h.1, ?_⟩
    rcases h.2 with f | ⟨q, hq, f⟩
    · refine ⟨p, by simp, ?_⟩
      rw [f, oneB_small hp]
    · exact ⟨q, by simp [hq], f⟩
theorem inbox_yes {a b c d x y : Int} (h : a ≤ x ∧ x < c ∧ b ≤ y ∧ y < d) : impl_InBox.f a b c d x y = some true := by
  unfold impl_InBox.f
  rw [if_pos (show x ≥ a from h.1), if_pos h.2.1, if_pos (show y ≥ b from h.2.2.1), decide_eq_true h.2.2.2]
theorem impl_squares {a b c d : Int} (h : Fit (a, b, c, d)) : impl_Squares.f a b c d = some (a / 256, b / 256, (c + 255) / 256, (d + 255) / 256) := by
  obtain ⟨he, h1, h2, h3, h4⟩ := h
  simp only at he h1 h2 h3 h4
  unfold impl_Squares.f
  rw [impl_empty, he, Option.bind_some, if_neg (by decide), impl_near4, Option.bind_some, c4_same (by omega) (by omega), c4_same (by omega) (by omega), c4_same (x := c) (by omega) (by omega), c4_same (x := d) (by omega) (by omega)]
  simp only
  rw [w64 (n := c + 256) (by omega) (by omega), w64 (n := d + 256) (by omega) (by omega), w64 (n := c + 256 - 1) (by omega) (by omega), w64 (n := d + 256 - 1) (by omega) (by omega),
    impl_floor (by omega) (by omega) (by omega), Option.bind_some, impl_floor (by omega) (by omega) (by omega), Option.bind_some, impl_floor (by omega) (by omega) (by omega), Option.bind_some, impl_floor (by omega) (by omega) (by omega), Option.bind_some,
    show c + 256 - 1 = c + 255 by omega, show d + 256 - 1 = d + 255 by omega]
theorem spec_squares {a b c d : Int} (h : Fit (a, b, c, d)) : spec_Squares.f a b c d = some (a / 256, b / 256, (c + 255) / 256, (d + 255) / 256) := by
  obtain ⟨he, h1, h2, h3, h4⟩ := h
  simp only at he h1 h2 h3 h4
  unfold spec_Squares.f
  rw [spec_empty, he, Option.bind_some, if_neg (by decide), spec_c4, Option.bind_some, spec_c4, spec_c4, spec_c4, c4_same (x := a) (by omega) (by omega), c4_same (x := b) (by omega) (by omega), c4_same (x := c) (by omega) (by omega), c4_same (x := d) (by omega) (by omega),
    spec_floor (by omega) (by omega) (by omega), Option.bind_some, Option.bind_some, spec_floor (by omega) (by omega) (by omega), Option.bind_some, Option.bind_some,
    w64 (n := -c) (by omega) (by omega), spec_floor (by omega) (by omega) (by omega), Option.bind_some, Option.bind_some, w64 (n := -d) (by omega) (by omega), spec_floor (by omega) (by omega) (by omega), Option.bind_some,
    w64 (n := -(-c / 256)) (by omega) (by omega), w64 (n := -(-d / 256)) (by omega) (by omega), show -(-c / 256) = (c + 255) / 256 by omega, show -(-d / 256) = (d + 255) / 256 by omega]
theorem law_l0 (r : List S24) (hl : r.length ≤ 8) (a b c d s t u v : Int) (hs : ∀ p ∈ r, Small p) (h1 : ∀ p ∈ r, impl_InBox.f a b c d p.f0 p.f1 = some true) (h2 : ∀ p ∈ r, impl_InBox.f s t u v (p.f0 / 256) (p.f1 / 256) = some true) (n : Nat) :
    ∀ (k i : Nat), r.length - i = n → i ≤ r.length → laws_FnPointBoxes.l0 (k + n + 1) r (i : Int) a b c d s t u v = laws_FnPointBoxes.l1 k r 0 0 a b c d s t u v := by
  induction n with
  | zero =>
    intro k i hn hi
    simp only [laws_FnPointBoxes.l0]
    rw [if_neg (by omega)]
  | succ n ih =>
    intro k i hn hi
    have hlt : i < r.length := by omega
    have hm : r[i] ∈ r := List.getElem_mem hlt
    have hp := hs _ hm
    obtain ⟨⟨p1, p2⟩, p3, p4⟩ := hp
    rw [laws_FnPointBoxes.l0, if_pos (show (i : Int) < (r.length : Int) by omega), if_pos (show (0 : Int) ≤ (i : Int) by omega), rdP r i hlt, spec_floor (by omega) (by omega) (by omega), Option.bind_some, spec_floor (by omega) (by omega) (by omega), Option.bind_some,
      h1 _ hm, Option.bind_some, if_pos rfl, h2 _ hm, Option.bind_some, if_pos rfl, w64 (n := (i : Int) + 1) (by omega) (by omega), show (i : Int) + 1 = ((i + 1 : Nat) : Int) by omega]
    exact ih k (i + 1) (by omega) (by omega)
theorem law_l1 (r : List S24) (hl : r.length ≤ 8) (a b c d s t u v : Int) (n : Nat) :
    ∀ (k i m : Nat), r.length - i = n → i ≤ r.length → m ≤ i → ∃ m' : Nat, m ≤ m' ∧ m' ≤ 8 ∧ ((∃ p ∈ r.drop i, p.f0 = a) → m < m') ∧
      laws_FnPointBoxes.l1 (k + n) r (m : Int) (i : Int) a b c d s t u v = laws_FnPointBoxes.l1 k r (m' : Int) (r.length : Int) a b c d s t u v := by
  induction n with
  | zero =>
    intro k i m hn hi hm
    have e : i = r.length := by omega
    subst e
    refine ⟨m, by omega, by omega, fun h => ?_, rfl⟩
    obtain ⟨p, hp, _⟩ := h
    simp at hp
  | succ n ih =>
    intro k i m hn hi hm
    have hlt : i < r.length := by omega
    rw [show k + (n + 1) = (k + n) + 1 by omega, laws_FnPointBoxes.l1, if_pos (show (i : Int) < (r.length : Int) by omega), if_pos (show (0 : Int) ≤ (i : Int) by omega), rdP r i hlt, w64 (n := (i : Int) + 1) (by omega) (by omega), w64 (n := (m : Int) + 1) (by omega) (by omega),
      show (i : Int) + 1 = ((i + 1 : Nat) : Int) by omega, show (m : Int) + 1 = ((m + 1 : Nat) : Int) by omega]
    obtain ⟨m1, y1, y2, y3, y4⟩ := ih k (i + 1) (m + 1) (by omega) (by omega) (by omega)
    have up : ∃ m' : Nat, m ≤ m' ∧ m' ≤ 8 ∧ ((∃ p ∈ r.drop i, p.f0 = a) → m < m') ∧ laws_FnPointBoxes.l1 (k + n) r ((m + 1 : Nat) : Int) ((i + 1 : Nat) : Int) a b c d s t u v = laws_FnPointBoxes.l1 k r (m' : Int) (r.length : Int) a b c d s t u v :=
      ⟨m1, by omega, y2, fun _ => by omega, y4⟩
    by_cases g0 : r[i].f0 = a
    · rw [if_pos g0]; exact up
    · rw [if_neg g0]
      by_cases g1 : r[i].f1 = b
      · rw [if_pos g1]; exact up
      · rw [if_neg g1]
        by_cases g2 : wrap64 (r[i].f0 + 1) = c
        · rw [if_pos g2]; exact up
        · rw [if_neg g2]
          by_cases g3 : wrap64 (r[i].f1 + 1) = d
          · rw [if_pos g3]; exact up
          · rw [if_neg g3]
            obtain ⟨m2, z1, z2, z3, z4⟩ := ih k (i + 1) m (by omega) (by omega) (by omega)
            refine ⟨m2, z1, z2, fun h => z3 ?_, z4⟩
            obtain ⟨p, hp, e⟩ := h
            rw [List.drop_eq_getElem_cons hlt] at hp
            rcases List.mem_cons.1 hp with rfl | hp
            · exact absurd e g0
            · exact ⟨p, hp, e⟩
theorem FnPointBoxes : laws_FnPointBoxes.Pure := by
  intro l _ hl _
  refine ⟨l.length + 60, ?_⟩
  unfold laws_FnPointBoxes.f laws_big.f
  rw [Option.bind_some]
  by_cases hbig : decide ((l.length : Int) > 1048576) = true
  · rw [if_pos hbig]
  · rw [if_neg hbig]
    clear hbig
    obtain ⟨r, e, hr0, hr, hx⟩ := draw_points l (by omega) (l.length + 60) (by omega)
    obtain ⟨hf, q, hq, hqe⟩ := fit_box r (by omega) hx
    have hhas : ∀ p ∈ r, inB (boxL r) p.f0 p.f1 := by
      intro p hp
      have h := boxL_has r (0, 0, 0, 0) p hp
      obtain ⟨⟨p1, p2⟩, p3, p4⟩ := hx p hp
      rw [c4_same (by omega) (by omega), c4_same (by omega) (by omega)] at h
      exact h
    have eb := spec_box r (by omega)
    have ei := impl_box r (by omega)
    have e0 := impl_box [] (by simp)
    rw [e, Option.bind_some, ei _ (by omega), Option.bind_some]
    generalize boxL r = z at *
    obtain ⟨a, b, c, d⟩ := z
    have h1 : ∀ p ∈ r, impl_InBox.f a b c d p.f0 p.f1 = some true := fun p hp => inbox_yes (hhas p hp)
    have h2 : ∀ p ∈ r, impl_InBox.f (a / 256) (b / 256) ((c + 255) / 256) ((d + 255) / 256) (p.f0 / 256) (p.f1 / 256) = some true := by
      intro p hp
      obtain ⟨g1, g2, g3, g4⟩ := hhas p hp
      simp only at g1 g2 g3 g4
      exact inbox_yes ⟨by omega, by omega, by omega, by omega⟩
    simp only
    rw [impl_squares hf, Option.bind_some]
    simp only
    have s0 := law_l0 r hr a b c d _ _ _ _ hx h1 h2 r.length (l.length + 60 - r.length - 1) 0 (by omega) (by omega)
    rw [show l.length + 60 - r.length - 1 + r.length + 1 = l.length + 60 by omega] at s0
    rw [show (0 : Int) = ((0 : Nat) : Int) from rfl] 
    rw [s0]
    obtain ⟨m', _, m8, mq, s1⟩ := law_l1 r hr a b c d (a / 256) (b / 256) ((c + 255) / 256) ((d + 255) / 256) r.length (l.length + 60 - r.length - 1 - r.length) 0 0 (by omega) (by omega) (by omega)
    rw [show l.length + 60 - r.length - 1 - r.length + r.length = l.length + 60 - r.length - 1 by omega] at s1
    have hm := mq ⟨q, by simpa using hq, hqe⟩
    refine Eq.trans s1 ?_
    obtain ⟨k, hk⟩ : ∃ k, l.length + 60 - r.length - 1 - r.length = k + 1 := ⟨l.length + 60 - r.length - 1 - r.length - 1, by omega⟩
    rw [hk, laws_FnPointBoxes.l1, if_neg (by omega), if_pos (by omega), eb k (by omega), Option.bind_some]
    simp only [beq_self_eq_true, Bool.and_self, if_true]
    rw [spec_squares hf, Option.bind_some]
    simp only [beq_self_eq_true, Bool.and_self, if_true]
    rw [e0 k (by simp; omega), Option.bind_some, impl_empty]
    rfl
end Go.Proofs.Ytdlocaecdlgnjaa.Pure
