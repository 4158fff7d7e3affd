/- FnBoxes: two drawn boxes joined, met and grown hold the points that they should, and neither order of two matters; for every code. -/
import Derived.Test.YtpeopmkgabfjbaaQFnBoxesx0
import Derived.Test.YtpeopmkgabfjbaaQFnBoxesx1
import Derived.Test.YtpeopmkgabfjbaaQFnBoxesx2
import Derived.Test.YtpeopmkgabfjbaaQFnBoxesx3
import Derived.Test.YtpeopmkgabfjbaaQFnBoxesx4
import Derived.Test.YtpeopmkgabfjbaaQFnBoxesx5
import Derived.Test.YtpeopmkgabfjbaaPlain
namespace Go.Proofs.Ytpeopmkgabfjbaa.Pure
open Go.RowKit Go.Proofs.Ytpeopmkgabfjbaa.PFnBoxes Go.Proofs.Ytpeopmkgabfjbaa.Plain Go.Proofs.YtpeopmkgabfjbaaW.PrintWords Go.Proofs.YtpeopmkgabfjbaaW.PrintLast

theorem impl_clamp (x lo hi : Int) : impl_Clamp.f x lo hi = some (clampI x lo hi) := by
  unfold impl_Clamp.f
  exact clampI_text x lo hi

theorem impl_empty (a b c d : Int) : impl_Empty.f a b c d = some (emB a b c d) := by
  unfold impl_Empty.f
  exact emB_text a b c d

def joinB (a b : Int × Int × Int × Int) : Int × Int × Int × Int :=
  if emB a.1 a.2.1 a.2.2.1 a.2.2.2 && emB b.1 b.2.1 b.2.2.1 b.2.2.2 then (0, 0, 0, 0) else if emB a.1 a.2.1 a.2.2.1 a.2.2.2 then b else if emB b.1 b.2.1 b.2.2.1 b.2.2.2 then a
  else (mn a.1 b.1, mn a.2.1 b.2.1, mx a.2.2.1 b.2.2.1, mx a.2.2.2 b.2.2.2)

theorem impl_join (k : Nat) (a0 a1 a2 a3 b0 b1 b2 b3 : Int) : impl_JoinBox.f (k + 1) a0 a1 a2 a3 b0 b1 b2 b3 = some (joinB (a0, a1, a2, a3) (b0, b1, b2, b3)) := by
  unfold impl_JoinBox.f joinB
  simp only [impl_empty, Option.bind_some, impl_JoinBox.j0]
  cases emB a0 a1 a2 a3 <;> cases emB b0 b1 b2 b3 <;> simp

abbrev B4 := Int × Int × Int × Int
def inB (b : B4) (x y : Int) : Prop := b.1 ≤ x ∧ x < b.2.2.1 ∧ b.2.1 ≤ y ∧ y < b.2.2.2
theorem inB_left {a b : B4} {x y : Int} (h : inB a x y) : inB (joinB a b) x y := by
  obtain ⟨a0, a1, a2, a3⟩ := a
  obtain ⟨b0, b1, b2, b3⟩ := b
  simp only [inB] at h ⊢
  have ha : emB a0 a1 a2 a3 = false := emB_false.2 (by omega)
  unfold joinB
  simp only [ha]
  cases hb : emB b0 b1 b2 b3
  · simp only [Bool.and_self, Bool.false_eq_true, if_false, mn, mx]
    refine ⟨?_, ?_, ?_, ?_⟩ <;> split <;> omega
  · simpa using h
theorem inB_right {a b : B4} {x y : Int} (h : inB b x y) : inB (joinB a b) x y := by
  obtain ⟨a0, a1, a2, a3⟩ := a
  obtain ⟨b0, b1, b2, b3⟩ := b
  simp only [inB] at h ⊢
  have hb : emB b0 b1 b2 b3 = false := emB_false.2 (by omega)
  unfold joinB
  simp only [hb]
  cases ha : emB a0 a1 a2 a3
  · simp only [Bool.and_self, Bool.false_eq_true, if_false, mn, mx]
    refine ⟨?_, ?_, ?_, ?_⟩ <;> split <;> omega
  · simpa using h

def c4 (x : Int) : Int := clampI x (-33554432) 33554432
theorem c4_in (x : Int) : -33554432 ≤ c4 x ∧ c4 x ≤ 33554432 := clampI_in (by omega)
theorem impl_c4 (x : Int) : impl_taken.f x 33554432 = some (c4 x) := by
  unfold impl_taken.f
  rw [w64 (by omega) (by omega), impl_clamp]
  rfl

theorem impl_near4 (a b c d : Int) : impl_near.f a b c d = some (c4 a, c4 b, c4 c, c4 d) := by
  unfold impl_near.f
  simp only [impl_c4, Option.bind_some]

/-- A draw of one byte, wherever the reader stands. -/
theorem draw_byte (l : List Int) (hl : l.length ≤ 140737488355328) (i h : Int) (h0 : 0 ≤ i) (h1 : i ≤ l.length) :
    ∃ x i' h' : Int, spec_l01Byte.f l i h = some (x, i', h') ∧ 0 ≤ x ∧ x < 256 ∧ 0 ≤ i' ∧ i' ≤ l.length := by
  unfold spec_l01Byte.f
  by_cases hlt : i < (l.length : Int)
  · rw [if_pos hlt, if_pos h0, w64 (n := i + 1) (by omega) (by omega)]
    exact ⟨_, _, _, rfl, (and255 _).1, (and255 _).2, by omega, by omega⟩
  · rw [if_neg hlt]
    exact ⟨_, _, _, rfl, (and255 _).1, (and255 _).2, h0, h1⟩

/-- A drawn number below n. -/
theorem draw_below (l : List Int) (hl : l.length ≤ 140737488355328) (i h : Int) (h0 : 0 ≤ i) (h1 : i ≤ l.length) (n : Int) (hn : 0 < n) :
    ∃ x i' h' : Int, spec_l01Below.f l i h n = some (x, i', h') ∧ 0 ≤ x ∧ x < n ∧ 0 ≤ i' ∧ i' ≤ l.length := by
  unfold spec_l01Below.f
  obtain ⟨x, i1, g1, e1, a1, b1, c1, d1⟩ := draw_byte l hl i h h0 h1
  rw [if_neg (by omega)]
  by_cases hs : n ≤ 256
  · rw [if_pos hs, e1]
    simp only [Option.bind_some]
    rw [if_neg (by omega), tmod_pos a1]
    exact ⟨_, _, _, rfl, Int.emod_nonneg _ (by omega), Int.emod_lt_of_pos _ hn, c1, d1⟩
  · obtain ⟨y, i2, g2, e2, a2, b2, c2, d2⟩ := draw_byte l hl i1 g1 c1 d1
    obtain ⟨z, i3, g3, e3, a3, b3, c3, d3⟩ := draw_byte l hl i2 g2 c2 d2
    obtain ⟨w, i4, g4, e4, a4, b4, c4, d4⟩ := draw_byte l hl i3 g3 c3 d3
    rw [if_neg hs, e1]
    simp only [Option.bind_some, e2, e3, e4]
    rw [w64 (n := x * 16777216) (by omega) (by omega), w64 (n := y * 65536) (by omega) (by omega), w64 (n := z * 256) (by omega) (by omega), w64 (n := x * 16777216 + y * 65536) (by omega) (by omega),
      w64 (n := x * 16777216 + y * 65536 + z * 256) (by omega) (by omega), w64 (n := x * 16777216 + y * 65536 + z * 256 + w) (by omega) (by omega), if_neg (by omega), tmod_pos (by omega)]
    exact ⟨_, _, _, rfl, Int.emod_nonneg _ (by omega), Int.emod_lt_of_pos _ hn, c4, d4⟩

theorem draw_new_loop (l : List Int) (hl : l.length ≤ 140737488355328) (d : Nat) : ∀ (k : Nat) (h i : Int), 0 ≤ i → i ≤ l.length → (l.length : Int) - i = d → d < k → ∃ h' : Int, spec_l01New.l0 k l h i = some (l, 0, h') := by
  induction d with
  | zero =>
    intro k h i h0 h1 hd hk
    obtain ⟨k, rfl⟩ : ∃ m, k = m + 1 := ⟨k - 1, by omega⟩
    simp only [spec_l01New.l0]
    rw [if_neg (by omega)]
    exact ⟨_, rfl⟩
  | succ d ih =>
    intro k h i h0 h1 hd hk
    obtain ⟨k, rfl⟩ : ∃ m, k = m + 1 := ⟨k - 1, by omega⟩
    simp only [spec_l01New.l0]
    have hlt : i < (l.length : Int) := by omega
    rw [if_pos hlt]
    by_cases h4 : i < 4000
    · rw [if_pos h4, if_pos h0, w64 (n := i + 1) (by omega) (by omega)]
      exact ih k _ (i + 1) (by omega) (by omega) (by omega) (by omega)
    · rw [if_neg h4]
      exact ⟨_, rfl⟩

theorem draw_new (l : List Int) (hl : l.length ≤ 140737488355328) (k : Nat) (hk : l.length < k) : ∃ h : Int, spec_l01New.f k l = some (l, 0, h) := by
  unfold spec_l01New.f
  exact draw_new_loop l hl l.length k _ 0 (by omega) (by omega) (by omega) hk

/-- Two drawn boxes and a drawn point. -/
theorem draw_boxes (l : List Int) (hl : l.length ≤ 140737488355328) (k : Nat) (hk : l.length < k) :
    ∃ a b c d p q r s x y : Int, spec_DrawBoxes.f k l = some (a, b, c, d, p, q, r, s, x, y) ∧ ((0 ≤ a ∧ a ≤ c ∧ c ≤ 16) ∧ (0 ≤ b ∧ b ≤ d ∧ d ≤ 16) ∧ (0 ≤ p ∧ p ≤ r ∧ r ≤ 16) ∧ (0 ≤ q ∧ q ≤ s ∧ s ≤ 16)) ∧ (0 ≤ x ∧ x < 18) ∧ (0 ≤ y ∧ y < 18) := by
  obtain ⟨h, e0⟩ := draw_new l hl k hk
  obtain ⟨x1, i1, g1, e1, a1, b1, c1, d1⟩ := draw_below l hl 0 h (by omega) (by omega) 9 (by omega)
  obtain ⟨x2, i2, g2, e2, a2, b2, c2, d2⟩ := draw_below l hl i1 g1 c1 d1 9 (by omega)
  obtain ⟨x3, i3, g3, e3, a3, b3, c3, d3⟩ := draw_below l hl i2 g2 c2 d2 9 (by omega)
  obtain ⟨x4, i4, g4, e4, a4, b4, c4, d4⟩ := draw_below l hl i3 g3 c3 d3 9 (by omega)
  obtain ⟨x5, i5, g5, e5, a5, b5, c5, d5⟩ := draw_below l hl i4 g4 c4 d4 9 (by omega)
  obtain ⟨x6, i6, g6, e6, a6, b6, c6, d6⟩ := draw_below l hl i5 g5 c5 d5 9 (by omega)
  obtain ⟨x7, i7, g7, e7, a7, b7, c7, d7⟩ := draw_below l hl i6 g6 c6 d6 9 (by omega)
  obtain ⟨x8, i8, g8, e8, a8, b8, c8, d8⟩ := draw_below l hl i7 g7 c7 d7 9 (by omega)
  obtain ⟨x9, i9, g9, e9, a9, b9, c9, d9⟩ := draw_below l hl i8 g8 c8 d8 18 (by omega)
  obtain ⟨x0, i0, g0, e0', a0, b0, c0, d0⟩ := draw_below l hl i9 g9 c9 d9 18 (by omega)
  unfold spec_DrawBoxes.f
  rw [e0]
  simp only [Option.bind_some, e1, e2, e3, e4, e5, e6, e7, e8, e9, e0']
  rw [w64 (n := x1 + x3) (by omega) (by omega), w64 (n := x2 + x4) (by omega) (by omega), w64 (n := x5 + x7) (by omega) (by omega), w64 (n := x6 + x8) (by omega) (by omega)]
  exact ⟨_, _, _, _, _, _, _, _, _, _, rfl, ⟨by omega, by omega, by omega, by omega⟩, ⟨a9, b9⟩, a0, b0⟩

def inbB (b : B4) (x y : Int) : Bool := decide (b.1 ≤ x) && decide (x < b.2.2.1) && decide (b.2.1 ≤ y) && decide (y < b.2.2.2)
theorem inbB_true {b : B4} {x y : Int} : inbB b x y = true ↔ inB b x y := by
  unfold inbB inB
  simp only [Bool.and_eq_true, decide_eq_true_eq]
  constructor
  · rintro ⟨⟨⟨h1, h2⟩, h3⟩, h4⟩
    exact ⟨h1, h2, h3, h4⟩
  · rintro ⟨h1, h2, h3, h4⟩
    exact ⟨⟨⟨h1, h2⟩, h3⟩, h4⟩
theorem impl_in (a b c d x y : Int) : impl_InBox.f a b c d x y = some (inbB (a, b, c, d) x y) := by
  unfold impl_InBox.f inbB
  by_cases h1 : x ≥ a
  · rw [if_pos h1, decide_eq_true (show a ≤ x from h1)]
    by_cases h2 : x < c
    · rw [if_pos h2, decide_eq_true h2]
      by_cases h3 : y ≥ b
      · rw [if_pos h3, decide_eq_true (show b ≤ y from h3)]
        rfl
      · rw [if_neg h3, decide_eq_false (show ¬ b ≤ y from h3)]
        rfl
    · rw [if_neg h2, decide_eq_false h2]
      rfl
  · rw [if_neg h1, decide_eq_false (show ¬ a ≤ x from h1)]
    rfl
def meetB (a b : B4) : B4 := if emB (mx a.1 b.1) (mx a.2.1 b.2.1) (mn a.2.2.1 b.2.2.1) (mn a.2.2.2 b.2.2.2) then (0, 0, 0, 0) else (mx a.1 b.1, mx a.2.1 b.2.1, mn a.2.2.1 b.2.2.1, mn a.2.2.2 b.2.2.2)
theorem impl_meet (a0 a1 a2 a3 b0 b1 b2 b3 : Int) : impl_MeetBox.f a0 a1 a2 a3 b0 b1 b2 b3 = some (meetB (a0, a1, a2, a3) (b0, b1, b2, b3)) := by
  unfold impl_MeetBox.f meetB
  rw [impl_empty, Option.bind_some]
  split <;> rfl
theorem mn_comm (a b : Int) : mn a b = mn b a := by
  unfold mn
  split <;> split <;> omega
theorem mx_comm (a b : Int) : mx a b = mx b a := by
  unfold mx
  split <;> split <;> omega
theorem meet_comm (a b : B4) : meetB a b = meetB b a := by
  unfold meetB
  rw [mx_comm a.1, mx_comm a.2.1, mn_comm a.2.2.1, mn_comm a.2.2.2]
theorem join_comm (a b : B4) : joinB a b = joinB b a := by
  unfold joinB
  rw [mn_comm a.1, mn_comm a.2.1, mx_comm a.2.2.1, mx_comm a.2.2.2, Bool.and_comm]
  cases emB a.1 a.2.1 a.2.2.1 a.2.2.2 <;> cases emB b.1 b.2.1 b.2.2.1 b.2.2.2 <;> rfl
theorem in_meet (a b : B4) (x y : Int) : inbB (meetB a b) x y = (inbB a x y && inbB b x y) := by
  rw [Bool.eq_iff_iff, Bool.and_eq_true, inbB_true, inbB_true, inbB_true]
  unfold meetB
  cases he : emB (mx a.1 b.1) (mx a.2.1 b.2.1) (mn a.2.2.1 b.2.2.1) (mn a.2.2.2 b.2.2.2)
  · simp only [Bool.false_eq_true, if_false]
    clear he
    unfold inB mx mn
    simp only
    constructor
    · intro h
      revert h
      split <;> split <;> split <;> split <;> intro h <;> refine ⟨⟨?_, ?_, ?_, ?_⟩, ?_, ?_, ?_, ?_⟩ <;> omega
    · rintro ⟨h, g⟩
      split <;> split <;> split <;> split <;> refine ⟨?_, ?_, ?_, ?_⟩ <;> omega
  · simp only [if_true]
    have h0 : ¬ inB (0, 0, 0, 0) x y := by
      unfold inB
      simp only
      omega
    refine ⟨fun h => absurd h h0, fun ⟨h, g⟩ => ?_⟩
    exfalso
    unfold emB at he
    simp only [Bool.or_eq_true, decide_eq_true_eq] at he
    unfold inB at h g
    unfold mx mn at he
    revert he
    split <;> split <;> split <;> split <;> omega
/-- A small box. -/
def Sm (b : B4) : Prop := (0 ≤ b.1 ∧ b.1 ≤ 16) ∧ (0 ≤ b.2.1 ∧ b.2.1 ≤ 16) ∧ (0 ≤ b.2.2.1 ∧ b.2.2.1 ≤ 16) ∧ 0 ≤ b.2.2.2 ∧ b.2.2.2 ≤ 16
theorem c4_small {x : Int} (h0 : -1000 ≤ x) (h1 : x ≤ 1000) : c4 x = x := clampI_self (by omega) (by omega)
theorem impl_grow {a b c d : Int} (h : Sm (a, b, c, d)) : ∃ g : B4, impl_GrowBox.f a b c d 2 = some g ∧ (emB a b c d = true → g = (0, 0, 0, 0)) ∧ (emB a b c d = false → g = (a - 2, b - 2, c + 2, d + 2)) := by
  obtain ⟨h1, h2, h3, h4⟩ := h
  simp only at h1 h2 h3 h4
  unfold impl_GrowBox.f
  rw [impl_empty, Option.bind_some]
  cases he : emB a b c d
  · have hc : clampI 2 0 8388608 = 2 := by decide
    rw [if_neg (by decide), impl_clamp, hc, Option.bind_some, impl_near4, c4_small (x := a) (by omega) (by omega), c4_small (x := b) (by omega) (by omega), c4_small (x := c) (by omega) (by omega), c4_small (x := d) (by omega) (by omega), Option.bind_some]
    simp only
    rw [w64 (n := a - 2) (by omega) (by omega), w64 (n := b - 2) (by omega) (by omega), w64 (n := c + 2) (by omega) (by omega), w64 (n := d + 2) (by omega) (by omega), impl_near4,
      c4_small (x := a - 2) (by omega) (by omega), c4_small (x := b - 2) (by omega) (by omega), c4_small (x := c + 2) (by omega) (by omega), c4_small (x := d + 2) (by omega) (by omega), Option.bind_some]
    exact ⟨_, rfl, fun h => (by cases h), fun _ => rfl⟩
  · rw [if_pos rfl]
    exact ⟨_, rfl, fun _ => rfl, fun h => (by cases h)⟩
theorem join_meet {a b : B4} (hm : emB (meetB a b).1 (meetB a b).2.1 (meetB a b).2.2.1 (meetB a b).2.2.2 = false) : joinB (meetB a b) a = a := by
  unfold meetB at hm ⊢
  cases he : emB (mx a.1 b.1) (mx a.2.1 b.2.1) (mn a.2.2.1 b.2.2.1) (mn a.2.2.2 b.2.2.2)
  · simp only [he, Bool.false_eq_true, if_false] at hm ⊢
    have hl := emB_false.1 he
    have ha : emB a.1 a.2.1 a.2.2.1 a.2.2.2 = false := by
      refine emB_false.2 ?_
      unfold mx mn at hl
      revert hl
      split <;> split <;> split <;> split <;> intro hl <;> omega
    unfold joinB
    simp only [he, ha, Bool.and_self, Bool.false_eq_true, if_false]
    have e1 : mn (mx a.1 b.1) a.1 = a.1 := by unfold mn mx; split <;> (try split) <;> omega
    have e2 : mn (mx a.2.1 b.2.1) a.2.1 = a.2.1 := by unfold mn mx; split <;> (try split) <;> omega
    have e3 : mx (mn a.2.2.1 b.2.2.1) a.2.2.1 = a.2.2.1 := by unfold mn mx; split <;> (try split) <;> omega
    have e4 : mx (mn a.2.2.2 b.2.2.2) a.2.2.2 = a.2.2.2 := by unfold mn mx; split <;> (try split) <;> omega
    rw [e1, e2, e3, e4]
  · simp only [he, if_true] at hm
    cases hm
theorem boxes_j1 (k : Nat) (a b c d p q r s : Int) (m : B4) (hm : m = meetB (a, b, c, d) (p, q, r, s)) : laws_FnBoxes.j1 (k + 2) false a b c d p q r s m.1 m.2.1 m.2.2.1 m.2.2.2 = some true := by
  rw [laws_FnBoxes.j1, if_neg (by decide), impl_join, impl_join, join_comm (p, q, r, s)]
  simp only [Option.bind_some, beq_self_eq_true, Bool.and_self, if_true]
  rw [impl_meet, impl_meet, meet_comm (p, q, r, s)]
  simp only [Option.bind_some, beq_self_eq_true, Bool.and_self, if_true]
  rw [impl_empty, impl_empty]
  simp only [Option.bind_some]
  have hf : ∀ o : Bool, o = emB m.1 m.2.1 m.2.2.1 m.2.2.2 → (if o = true then some true else (impl_JoinBox.f (k + 1) m.1 m.2.1 m.2.2.1 m.2.2.2 a b c d).bind fun bt => some (bt.1 == a && (bt.2.1 == b && (bt.2.2.1 == c && (bt.2.2.2 == d))))) = some true := by
    rintro o rfl
    cases he : emB m.1 m.2.1 m.2.2.1 m.2.2.2
    · rw [if_neg (by decide), impl_join, Option.bind_some]
      have hj : joinB (m.1, m.2.1, m.2.2.1, m.2.2.2) (a, b, c, d) = (a, b, c, d) := by
        subst hm
        exact join_meet he
      rw [hj]
      simp
    · rw [if_pos rfl]
  by_cases h1 : a ≥ c
  · have he : emB a b c d = true := by unfold emB; rw [decide_eq_true (show c ≤ a from h1)]; rfl
    rw [if_pos h1, he, if_pos (by decide)]
    exact hf _ rfl
  · have he : emB a b c d = decide (b ≥ d) := by unfold emB; rw [decide_eq_false (show ¬ c ≤ a from h1), Bool.false_or]
    rw [if_neg h1, he, if_pos (by simp)]
    exact hf _ rfl
theorem boxes_j0 (k : Nat) (a b c d p q r s : Int) (m g : B4) (hm : m = meetB (a, b, c, d) (p, q, r, s)) (hg : emB a b c d = true → g = (0, 0, 0, 0)) :
    laws_FnBoxes.j0 (k + 3) false a b c d p q r s m.1 m.2.1 m.2.2.1 m.2.2.2 g.1 g.2.1 g.2.2.1 g.2.2.2 = some true := by
  have e := boxes_j1 k a b c d p q r s m hm
  rw [laws_FnBoxes.j0, if_neg (by decide), impl_empty, Option.bind_some]
  cases he : emB a b c d
  · rw [if_neg (by decide)]
    exact e
  · rw [if_pos rfl, impl_join, impl_join, join_comm (p, q, r, s), hg he]
    simp only [Option.bind_some, beq_self_eq_true, Bool.not_true, Bool.or_self, Bool.false_eq_true, if_false]
    rw [impl_empty, Option.bind_some]
    exact e
theorem FnBoxes : laws_FnBoxes.Pure := by
  intro l _ hl _
  refine ⟨l.length + 1 + 3, ?_⟩
  unfold laws_FnBoxes.f laws_big.f
  rw [Option.bind_some]
  by_cases hbig : decide ((l.length : Int) > 1048576) = true
  · rw [if_pos hbig]
  · rw [if_neg hbig]
    clear hbig
    obtain ⟨a, b, c, d, p, q, r, s, x, y, e, ⟨h1, h2, h3, h4⟩, hx, hy⟩ := draw_boxes l (by omega) (l.length + 1 + 3) (by omega)
    obtain ⟨g, eg, g1, g2⟩ := impl_grow (a := a) (b := b) (c := c) (d := d) ⟨⟨by simp only; omega, by simp only; omega⟩, ⟨by simp only; omega, by simp only; omega⟩, ⟨by simp only; omega, by simp only; omega⟩, by simp only; omega, by simp only; omega⟩
    have hj0 := boxes_j0 (l.length + 1) a b c d p q r s (meetB (a, b, c, d) (p, q, r, s)) g rfl g1
    have hin := in_meet (a, b, c, d) (p, q, r, s) x y
    have hgr : inbB (a, b, c, d) x y = true → inbB g (x + 2) (y - 1) = true := by
      intro h
      have h := inbB_true.1 h
      unfold inB at h
      simp only at h
      rw [g2 (emB_false.2 (by omega))]
      refine inbB_true.2 ?_
      unfold inB
      simp only
      omega
    have hjl : inbB (a, b, c, d) x y = true → inbB (joinB (a, b, c, d) (p, q, r, s)) x y = true := fun h => inbB_true.2 (inB_left (inbB_true.1 h))
    have hjr : inbB (p, q, r, s) x y = true → inbB (joinB (a, b, c, d) (p, q, r, s)) x y = true := fun h => inbB_true.2 (inB_right (inbB_true.1 h))
    rw [e, Option.bind_some]
    simp only
    rw [impl_join, Option.bind_some, impl_meet, Option.bind_some, eg, Option.bind_some, impl_in, Option.bind_some, impl_in, Option.bind_some, w64 (n := x + 2) (by omega) (by omega), w64 (n := y - 1) (by omega) (by omega)]
    cases hA : inbB (a, b, c, d) x y <;> cases hB : inbB (p, q, r, s) x y <;> rw [hA, hB] at hin
    · rw [if_neg (by decide), if_neg (by decide), impl_in, Option.bind_some, show ((meetB (a, b, c, d) (p, q, r, s)).1, (meetB (a, b, c, d) (p, q, r, s)).2.1, (meetB (a, b, c, d) (p, q, r, s)).2.2.1, (meetB (a, b, c, d) (p, q, r, s)).2.2.2) = meetB (a, b, c, d) (p, q, r, s) from rfl, hin, if_neg (by decide)]
      exact hj0
    · rw [if_neg (by decide), if_pos rfl, impl_in, Option.bind_some, show ((joinB (a, b, c, d) (p, q, r, s)).1, (joinB (a, b, c, d) (p, q, r, s)).2.1, (joinB (a, b, c, d) (p, q, r, s)).2.2.1, (joinB (a, b, c, d) (p, q, r, s)).2.2.2) = joinB (a, b, c, d) (p, q, r, s) from rfl, hjr hB, if_pos rfl,
        impl_in, Option.bind_some, show ((meetB (a, b, c, d) (p, q, r, s)).1, (meetB (a, b, c, d) (p, q, r, s)).2.1, (meetB (a, b, c, d) (p, q, r, s)).2.2.1, (meetB (a, b, c, d) (p, q, r, s)).2.2.2) = meetB (a, b, c, d) (p, q, r, s) from rfl, hin, if_neg (by decide)]
      exact hj0
    · rw [if_pos rfl, impl_in, Option.bind_some, show ((joinB (a, b, c, d) (p, q, r, s)).1, (joinB (a, b, c, d) (p, q, r, s)).2.1, (joinB (a, b, c, d) (p, q, r, s)).2.2.1, (joinB (a, b, c, d) (p, q, r, s)).2.2.2) = joinB (a, b, c, d) (p, q, r, s) from rfl, hjl hA, if_pos rfl,
        impl_in, Option.bind_some, show ((meetB (a, b, c, d) (p, q, r, s)).1, (meetB (a, b, c, d) (p, q, r, s)).2.1, (meetB (a, b, c, d) (p, q, r, s)).2.2.1, (meetB (a, b, c, d) (p, q, r, s)).2.2.2) = meetB (a, b, c, d) (p, q, r, s) from rfl, hin, if_neg (by decide),
        impl_in, Option.bind_some, show (g.1, g.2.1, g.2.2.1, g.2.2.2) = g from rfl, hgr hA]
      exact hj0
    · rw [if_pos rfl, impl_in, Option.bind_some, show ((joinB (a, b, c, d) (p, q, r, s)).1, (joinB (a, b, c, d) (p, q, r, s)).2.1, (joinB (a, b, c, d) (p, q, r, s)).2.2.1, (joinB (a, b, c, d) (p, q, r, s)).2.2.2) = joinB (a, b, c, d) (p, q, r, s) from rfl, hjl hA, if_pos rfl,
        impl_in, Option.bind_some, show ((meetB (a, b, c, d) (p, q, r, s)).1, (meetB (a, b, c, d) (p, q, r, s)).2.1, (meetB (a, b, c, d) (p, q, r, s)).2.2.1, (meetB (a, b, c, d) (p, q, r, s)).2.2.2) = meetB (a, b, c, d) (p, q, r, s) from rfl, hin, if_neg (by decide),
        impl_in, Option.bind_some, show (g.1, g.2.1, g.2.2.1, g.2.2.2) = g from rfl, hgr hA]
      exact hj0
end Go.Proofs.Ytpeopmkgabfjbaa.Pure
