/- FnExactRectPath: the program's RectPath and the reference's agree, for every box. -/
import Derived.Test.YtdlocaecdlgnjaaQFnExactRectPathx1
import Derived.Test.YtdlocaecdlgnjaaQFnExactRectPathx2
import Derived.Test.YtdlocaecdlgnjaaQFnExactRectPathx3
import Derived.Test.YtdlocaecdlgnjaaPlain
namespace Go.Proofs.Ytdlocaecdlgnjaa.Pure
open Go.RowKit Go.Proofs.Ytdlocaecdlgnjaa.PFnExactRectPath Go.Proofs.Ytdlocaecdlgnjaa.Plain Go.Proofs.YtdlocaecdlgnjaaW.PrintWords Go.Proofs.YtdlocaecdlgnjaaW.PrintLast

theorem spec_empty (a b c d : Int) : spec_Empty.f a b c d = some (emB a b c d) := by
  unfold spec_Empty.f
  exact emB_text a b c d

theorem impl_empty (a b c d : Int) : impl_Empty.f a b c d = some (emB a b c d) := by
  unfold impl_Empty.f
  exact emB_text a b c d

def farB (x : Int) : Bool := decide (-8388608 ≤ x) && decide (x ≤ 8388608)
theorem farB_true {x : Int} : farB x = true ↔ -8388608 ≤ x ∧ x ≤ 8388608 := by simp [farB]

theorem spec_far (x : Int) : spec_l01In.f x (-8388608) 8388608 = some (farB x) := by
  unfold spec_l01In.f farB
  by_cases h : -8388608 ≤ x
  · rw [if_pos h]
    simp [h]
  · rw [if_neg h]
    simp [h]
theorem spec_pointOk (x y : Int) : spec_PointOk.f x y = some (farB x && farB y) := by
  unfold spec_PointOk.f
  rw [spec_far, spec_far]
  cases farB x <;> rfl

theorem impl_far (x : Int) : impl_isFar.f x = some (farB x) := by
  unfold impl_isFar.f impl_inRange.f farB
  by_cases h : -8388608 ≤ x
  · rw [if_pos h]
    simp [h]
  · rw [if_neg h]
    simp [h]
theorem impl_pointOk (x y : Int) : impl_PointOk.f x y = some (farB x && farB y) := by
  unfold impl_PointOk.f
  rw [impl_far, impl_far]
  cases farB x <;> rfl

def okP (p : S24) : Bool := farB p.f0 && farB p.f1
theorem rdP (l : List S24) (i : Nat) (h : i < l.length) : rd_T24 l (i : Int) = l[i] := by
  unfold rd_T24
  rw [show ((i : Int)).toNat = i by omega, List.getD_eq_getElem?_getD, List.getElem?_eq_getElem h]
  rfl
theorem points_loop (l : List S24) (hl : l.length ≤ 9223372036854775806) (d : Nat) : ∀ (k i : Nat), l.length - i = d → i ≤ l.length → d < k → impl_pointsOk.l0 k l (l.length : Int) (i : Int) = some ((l.drop i).all okP) := by
  induction d with
  | zero =>
    intro k i hd hi hk
    obtain ⟨k, rfl⟩ : ∃ m, k = m + 1 := ⟨k - 1, by omega⟩
    simp only [impl_pointsOk.l0]
    rw [if_neg (by omega), List.drop_of_length_le (by omega)]
    rfl
  | succ d ih =>
    intro k i hd hi hk
    obtain ⟨k, rfl⟩ : ∃ m, k = m + 1 := ⟨k - 1, by omega⟩
    simp only [impl_pointsOk.l0]
    have hlt : i < l.length := by omega
    have c1 : (i : Int) < (l.length : Int) := by omega
    have c2 : (0 : Int) ≤ (i : Int) := by omega
    rw [if_pos c1, if_pos c2, if_pos c1, impl_pointOk, rdP l i hlt, w64 (n := (i : Int) + 1) (by omega) (by omega), show (i : Int) + 1 = ((i + 1 : Nat) : Int) by omega, ih k (i + 1) (by omega) (by omega) (by omega), List.drop_eq_getElem_cons hlt]
    simp only [Option.bind_some, List.all_cons, okP]
    cases farB l[i].f0 <;> cases farB l[i].f1 <;> simp
theorem points_ok (l : List S24) (hl : l.length ≤ 9223372036854775806) (k : Nat) (hk : l.length < k) : impl_pointsOk.f k l = some (l.all okP) := by
  unfold impl_pointsOk.f
  have := points_loop l hl l.length k 0 (by omega) (by omega) hk
  simpa using this

theorem rdI (l : List Int) (i : Nat) (h : i < l.length) : rd l (i : Int) = l[i] := by
  unfold rd
  rw [show ((i : Int)).toNat = i by omega, List.getD_eq_getElem?_getD, List.getElem?_eq_getElem h]
  rfl
theorem eqInts_loop (l : List Int) (hl : l.length ≤ 9223372036854775806) (d : Nat) : ∀ (k i : Nat), l.length - i = d → i ≤ l.length → d < k → laws_eqIntS.l0 k l l (i : Int) = some true := by
  induction d with
  | zero =>
    intro k i hd hi hk
    obtain ⟨k, rfl⟩ : ∃ m, k = m + 1 := ⟨k - 1, by omega⟩
    simp only [laws_eqIntS.l0]
    rw [if_neg (by omega)]
  | succ d ih =>
    intro k i hd hi hk
    obtain ⟨k, rfl⟩ : ∃ m, k = m + 1 := ⟨k - 1, by omega⟩
    simp only [laws_eqIntS.l0]
    have c1 : (i : Int) < (l.length : Int) := by omega
    have c2 : (0 : Int) ≤ (i : Int) := by omega
    rw [if_pos c1, if_pos c2, if_pos c1, if_pos trivial, w64 (n := (i : Int) + 1) (by omega) (by omega), show (i : Int) + 1 = ((i + 1 : Nat) : Int) by omega]
    exact ih k (i + 1) (by omega) (by omega) (by omega)
theorem eqInts_self (l : List Int) (hl : l.length ≤ 9223372036854775806) (k : Nat) (hk : l.length < k) : laws_eqIntS.f k l l = some true := by
  unfold laws_eqIntS.f
  rw [if_pos rfl]
  exact eqInts_loop l hl l.length k 0 (by omega) (by omega) hk
theorem eqPoints_loop (l : List S24) (hl : l.length ≤ 9223372036854775806) (d : Nat) : ∀ (k i : Nat), l.length - i = d → i ≤ l.length → d < k → laws_eqPointS.l0 k l l (i : Int) = some true := by
  induction d with
  | zero =>
    intro k i hd hi hk
    obtain ⟨k, rfl⟩ : ∃ m, k = m + 1 := ⟨k - 1, by omega⟩
    simp only [laws_eqPointS.l0]
    rw [if_neg (by omega)]
  | succ d ih =>
    intro k i hd hi hk
    obtain ⟨k, rfl⟩ : ∃ m, k = m + 1 := ⟨k - 1, by omega⟩
    simp only [laws_eqPointS.l0]
    have c1 : (i : Int) < (l.length : Int) := by omega
    have c2 : (0 : Int) ≤ (i : Int) := by omega
    have e : ∀ a b : Int, laws_eqPoint.f a b a b = some true := fun a b => by unfold laws_eqPoint.f; simp
    rw [if_pos c1, if_pos c2, if_pos c1, e, Option.bind_some, if_pos rfl, w64 (n := (i : Int) + 1) (by omega) (by omega), show (i : Int) + 1 = ((i + 1 : Nat) : Int) by omega]
    exact ih k (i + 1) (by omega) (by omega) (by omega)
theorem eqPoints_self (l : List S24) (hl : l.length ≤ 9223372036854775806) (k : Nat) (hk : l.length < k) : laws_eqPointS.f k l l = some true := by
  unfold laws_eqPointS.f
  rw [if_pos rfl]
  exact eqPoints_loop l hl l.length k 0 (by omega) (by omega) hk

theorem eqPath_self (v : List Int) (p : List S24) (hv : v.length ≤ 9223372036854775806) (hp : p.length ≤ 9223372036854775806) (k : Nat) (h1 : v.length < k) (h2 : p.length < k) : laws_eqPath.f k v p v p = some true := by
  unfold laws_eqPath.f
  rw [eqInts_self v hv k h1, eqPoints_self p hp k h2]
  rfl

def rectL (a b c d : Int) : List S24 := [⟨a, b⟩, ⟨c, b⟩, ⟨c, d⟩, ⟨a, d⟩]

theorem rect_both (a b c d : Int) (k : Nat) : ∃ r : List Int × List S24, spec_RectPath.f a b c d = some r ∧ impl_RectPath.f (k + 10) a b c d = some r ∧ (r = ([], []) ∨ r = ([1, 2, 2, 2, 5], rectL a b c d)) := by
  unfold spec_RectPath.f impl_RectPath.f impl_corners.f
  simp only [Option.bind_some, spec_empty, impl_empty]
  rw [points_ok _ (by simp) _ (by simp)]
  cases emB a b c d
  · simp only [Bool.false_eq_true, if_false, Option.bind_some, spec_pointOk, List.all_cons, List.all_nil, okP, rd_T24]
    cases ha : farB a <;> cases hb : farB b <;> cases hc : farB c <;> cases hd : farB d <;> simp [ha, hb, hc, hd, rectL]
  · exact ⟨([], []), rfl, rfl, .inl rfl⟩

theorem FnExactRectPath (a b c d : Int) (_ : (Lit.int .i64 a).wf = true) (_ : (Lit.int .i64 b).wf = true) (_ : (Lit.int .i64 c).wf = true) (_ : (Lit.int .i64 d).wf = true) : ∃ k, laws_FnExactRectPath.f k a b c d = some true := by
  refine ⟨10 + 10, ?_⟩
  obtain ⟨r, h, g, hr⟩ := rect_both a b c d 10
  unfold laws_FnExactRectPath.f laws_toBox.f
  simp only [Option.bind_some, h, g]
  rcases hr with rfl | rfl
  · rw [eqPath_self _ _ (by simp) (by simp) _ (by simp) (by simp)]
    rfl
  · rw [eqPath_self _ _ (by simp) (by simp [rectL]) _ (by simp) (by simp [rectL])]
    have m : laws_markPath.f (10 + 10) [1, 2, 2, 2, 5] (rectL a b c d) 1 = some (14, [1, 2, 3, 4, 5], [⟨6, 7⟩, ⟨8, 9⟩, ⟨10, 11⟩, ⟨12, 13⟩]) := by kernel_rfl
    have q : laws_heldPath.f (10 + 10) [1, 2, 3, 4, 5] [⟨6, 7⟩, ⟨8, 9⟩, ⟨10, 11⟩, ⟨12, 13⟩] 1 = some 14 := by kernel_rfl
    rw [m]
    simp [q]
end Go.Proofs.Ytdlocaecdlgnjaa.Pure
