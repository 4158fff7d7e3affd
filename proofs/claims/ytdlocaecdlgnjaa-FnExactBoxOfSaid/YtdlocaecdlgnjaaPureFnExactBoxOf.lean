/- FnExactBoxOf: the program's BoxOf and the reference's agree, for every list of points. -/
import Derived.Test.YtdlocaecdlgnjaaPFnExactBoxOfx0
import Derived.Test.YtdlocaecdlgnjaaPFnExactBoxOfx1
import Derived.Test.YtdlocaecdlgnjaaPFnExactBoxOfx2
import Derived.Test.YtdlocaecdlgnjaaPFnExactBoxOfx3
import Derived.Test.YtdlocaecdlgnjaaPlain
namespace Go.Proofs.Ytdlocaecdlgnjaa.Pure
open Go.RowKit Go.Proofs.Ytdlocaecdlgnjaa.PFnExactBoxOf Go.Proofs.Ytdlocaecdlgnjaa.Plain Go.Proofs.YtdlocaecdlgnjaaW.PrintWords Go.Proofs.YtdlocaecdlgnjaaW.PrintLast

theorem spec_clamp (x lo hi : Int) : spec_Clamp.f x lo hi = some (clampI x lo hi) := by
  unfold spec_Clamp.f
  exact clampI_text x lo hi

theorem impl_clamp (x lo hi : Int) : impl_Clamp.f x lo hi = some (clampI x lo hi) := by
  unfold impl_Clamp.f
  exact clampI_text x lo hi

theorem spec_empty (a b c d : Int) : spec_Empty.f a b c d = some (emB a b c d) := by
  unfold spec_Empty.f
  exact emB_text a b c d

theorem impl_empty (a b c d : Int) : impl_Empty.f a b c d = some (emB a b c d) := by
  unfold impl_Empty.f
  exact emB_text a b c d

theorem spec_most (a b : Int) : spec_l05Most.f a b = some (mx a b) := by
  unfold spec_l05Most.f mx
  by_cases h : a < b
  · rw [if_neg (by omega), if_pos h]
  · rw [if_neg h]
    by_cases e : b < a
    · rw [if_pos (by omega)]
    · rw [if_neg (by omega), show a = b by omega]
theorem spec_least (a b : Int) : spec_l05Least.f a b = some (mn a b) := by
  unfold spec_l05Least.f mn
  by_cases h : b < a
  · rw [if_neg (by omega), if_pos h]
  · rw [if_neg h]
    by_cases e : a < b
    · rw [if_pos (by omega)]
    · rw [if_neg (by omega), show a = b by omega]

def joinB (a b : Int × Int × Int × Int) : Int × Int × Int × Int :=
  if emB a.1 a.2.1 a.2.2.1 a.2.2.2 && emB b.1 b.2.1 b.2.2.1 b.2.2.2 then (0, 0, 0, 0) else if emB a.1 a.2.1 a.2.2.1 a.2.2.2 then b else if emB b.1 b.2.1 b.2.2.1 b.2.2.2 then a
  else (mn a.1 b.1, mn a.2.1 b.2.1, mx a.2.2.1 b.2.2.1, mx a.2.2.2 b.2.2.2)

theorem spec_join (k : Nat) (a0 a1 a2 a3 b0 b1 b2 b3 : Int) : spec_JoinBox.f (k + 1) a0 a1 a2 a3 b0 b1 b2 b3 = some (joinB (a0, a1, a2, a3) (b0, b1, b2, b3)) := by
  unfold spec_JoinBox.f joinB
  simp only [spec_empty, Option.bind_some, spec_JoinBox.j0, spec_most, spec_least]
  cases emB a0 a1 a2 a3 <;> cases emB b0 b1 b2 b3 <;> simp

theorem impl_join (k : Nat) (a0 a1 a2 a3 b0 b1 b2 b3 : Int) : impl_JoinBox.f (k + 1) a0 a1 a2 a3 b0 b1 b2 b3 = some (joinB (a0, a1, a2, a3) (b0, b1, b2, b3)) := by
  unfold impl_JoinBox.f joinB
  simp only [impl_empty, Option.bind_some, impl_JoinBox.j0]
  cases emB a0 a1 a2 a3 <;> cases emB b0 b1 b2 b3 <;> simp

def c4 (x : Int) : Int := clampI x (-33554432) 33554432
theorem c4_in (x : Int) : -33554432 ≤ c4 x ∧ c4 x ≤ 33554432 := clampI_in (by omega)
theorem spec_c4 (x : Int) : spec_l05Clamp.f x = some (c4 x) := by
  unfold spec_l05Clamp.f
  rw [spec_clamp]
  rfl
theorem impl_c4 (x : Int) : impl_taken.f x 33554432 = some (c4 x) := by
  unfold impl_taken.f
  rw [w64 (by omega) (by omega), impl_clamp]
  rfl

theorem rdP (l : List S24) (i : Nat) (h : i < l.length) : rd_T24 l (i : Int) = l[i] := by
  unfold rd_T24
  rw [show ((i : Int)).toNat = i by omega, List.getD_eq_getElem?_getD, List.getElem?_eq_getElem h]
  rfl

abbrev B4 := Int × Int × Int × Int
def inB (b : B4) (x y : Int) : Prop := b.1 ≤ x ∧ x < b.2.2.1 ∧ b.2.1 ≤ y ∧ y < b.2.2.2
theorem inB_left {a b : B4} {x y : Int} (h : inB a x y) : inB (joinB a b) x y := by
  obtain ⟨a0, a1, a2, a3⟩ := a
  obtain ⟨b0, b1, b2, b3⟩ := b
  simp only [inB] at h ⊢
  have ha : emB a0 a1 a2 a3 = false := emB_false.2 (by omega)
  unfold joinB
  simp only [ha]
  cases hb : emB b0 b1 b2 b3
  · simp only [Bool.and_self, Bool.false_eq_true, if_false, mn, mx]
    refine ⟨?_, ?_, ?_, ?_⟩ <;> split <;> omega
  · simpa using h
theorem inB_right {a b : B4} {x y : Int} (h : inB b x y) : inB (joinB a b) x y := by
  obtain ⟨a0, a1, a2, a3⟩ := a
  obtain ⟨b0, b1, b2, b3⟩ := b
  simp only [inB] at h ⊢
  have hb : emB b0 b1 b2 b3 = false := emB_false.2 (by omega)
  unfold joinB
  simp only [hb]
  cases ha : emB a0 a1 a2 a3
  · simp only [Bool.and_self, Bool.false_eq_true, if_false, mn, mx]
    refine ⟨?_, ?_, ?_, ?_⟩ <;> split <;> omega
  · simpa using h
def oneB (p : S24) : B4 := (c4 p.f0, c4 p.f1, c4 p.f0 + 1, c4 p.f1 + 1)
def boxFrom (b : B4) (l : List S24) : B4 := l.foldl (fun b p => joinB b (oneB p)) b
def boxL (l : List S24) : B4 := boxFrom (0, 0, 0, 0) l
theorem boxFrom_in (l : List S24) : ∀ (b : B4) (x y : Int), inB b x y → inB (boxFrom b l) x y := by
  induction l with
  | nil => intro b x y h; exact h
  | cons p l ih => intro b x y h; exact ih _ x y (inB_left h)
theorem boxL_has (l : List S24) : ∀ (b : B4) (p : S24), p ∈ l → inB (boxFrom b l) (c4 p.f0) (c4 p.f1) := by
  induction l with
  | nil => intro b p h; simp at h
  | cons q l ih =>
    intro b p h
    rcases List.mem_cons.1 h with rfl | h
    · refine boxFrom_in l _ _ _ (inB_right ?_)
      simp only [inB, oneB]
      omega
    · exact ih _ p h
theorem spec_box_loop (l : List S24) (hl : l.length ≤ 9223372036854775806) (d : Nat) : ∀ (k i : Nat) (b : B4), l.length - i = d → i ≤ l.length → d + 1 < k → spec_BoxOf.l0 k l (i : Int) b.1 b.2.1 b.2.2.1 b.2.2.2 = some (boxFrom b (l.drop i)) := by
  induction d with
  | zero =>
    intro k i b hd hi hk
    obtain ⟨k, rfl⟩ : ∃ m, k = m + 1 := ⟨k - 1, by omega⟩
    simp only [spec_BoxOf.l0]
    rw [if_neg (by omega), List.drop_of_length_le (by omega)]
    rfl
  | succ d ih =>
    intro k i b hd hi hk
    obtain ⟨k, rfl⟩ : ∃ m, k = m + 2 := ⟨k - 2, by omega⟩
    rw [spec_BoxOf.l0]
    have hlt : i < l.length := by omega
    have c1 : (i : Int) < (l.length : Int) := by omega
    have c2 : (0 : Int) ≤ (i : Int) := by omega
    have h0 := c4_in l[i].f0
    have h1 := c4_in l[i].f1
    rw [if_pos c1, if_pos c2, rdP l i hlt, spec_c4, Option.bind_some, spec_c4, Option.bind_some, w64 (n := c4 l[i].f0 + 1) (by omega) (by omega), w64 (n := c4 l[i].f1 + 1) (by omega) (by omega), spec_join, Option.bind_some,
      w64 (n := (i : Int) + 1) (by omega) (by omega), show (i : Int) + 1 = ((i + 1 : Nat) : Int) by omega, ih (k + 1) (i + 1) _ (by omega) (by omega) (by omega), List.drop_eq_getElem_cons hlt]
    rfl
theorem spec_box (l : List S24) (hl : l.length ≤ 9223372036854775806) (k : Nat) (hk : l.length + 1 < k) : spec_BoxOf.f k l = some (boxL l) := by
  unfold spec_BoxOf.f
  have := spec_box_loop l hl l.length k 0 (0, 0, 0, 0) (by omega) (by omega) hk
  simpa [boxL] using this

theorem impl_box_loop (l : List S24) (hl : l.length ≤ 9223372036854775806) (d : Nat) : ∀ (k i : Nat) (b : B4), 0 < i → l.length - i = d → i ≤ l.length → d + 1 < k → impl_BoxOf.l0 k l (l.length : Int) (i : Int) b.1 b.2.1 b.2.2.1 b.2.2.2 = some (boxFrom b (l.drop i)) := by
  induction d with
  | zero =>
    intro k i b hp hd hi hk
    obtain ⟨k, rfl⟩ : ∃ m, k = m + 1 := ⟨k - 1, by omega⟩
    simp only [impl_BoxOf.l0]
    rw [if_neg (by omega), List.drop_of_length_le (by omega)]
    rfl
  | succ d ih =>
    intro k i b hp hd hi hk
    obtain ⟨k, rfl⟩ : ∃ m, k = m + 2 := ⟨k - 2, by omega⟩
    rw [impl_BoxOf.l0]
    have hlt : i < l.length := by omega
    have c1 : (i : Int) < (l.length : Int) := by omega
    have c2 : (0 : Int) ≤ (i : Int) := by omega
    have h0 := c4_in l[i].f0
    have h1 := c4_in l[i].f1
    rw [if_pos c1, if_pos c2, if_pos c1, rdP l i hlt, impl_c4, Option.bind_some, impl_c4, Option.bind_some, if_neg (show ¬ (i : Int) = 0 by omega), w64 (n := c4 l[i].f0 + 1) (by omega) (by omega), w64 (n := c4 l[i].f1 + 1) (by omega) (by omega), impl_join, Option.bind_some,
      w64 (n := (i : Int) + 1) (by omega) (by omega), show (i : Int) + 1 = ((i + 1 : Nat) : Int) by omega, ih (k + 1) (i + 1) _ (by omega) (by omega) (by omega) (by omega), List.drop_eq_getElem_cons hlt]
    rfl
theorem join_one (p : S24) : joinB (oneB p) (oneB p) = oneB p ∧ joinB (0, 0, 0, 0) (oneB p) = oneB p := by
  have e : emB (c4 p.f0) (c4 p.f1) (c4 p.f0 + 1) (c4 p.f1 + 1) = false := emB_false.2 (by omega)
  have e0 : emB 0 0 0 0 = true := rfl
  constructor
  · unfold joinB oneB
    simp only [e, Bool.and_self, Bool.false_eq_true, if_false, mn, mx]
    simp
  · unfold joinB oneB
    simp only [e, e0, Bool.and_false, Bool.false_eq_true, if_false, if_true]
theorem impl_box (l : List S24) (hl : l.length ≤ 9223372036854775806) (k : Nat) (hk : l.length + 2 < k) : impl_BoxOf.f k l = some (boxL l) := by
  unfold impl_BoxOf.f
  obtain ⟨k, rfl⟩ : ∃ m, k = m + 2 := ⟨k - 2, by omega⟩
  match l, hl, hk with
  | [], _, _ => simp [impl_BoxOf.l0, boxL, boxFrom]
  | p :: l, hl, hk =>
    rw [impl_BoxOf.l0]
    have h0 := c4_in p.f0
    have h1 := c4_in p.f1
    have e : rd_T24 (p :: l) 0 = p := rfl
    simp only [List.length_cons] at hl hk
    rw [if_pos (by simp only [List.length_cons]; omega), if_pos (by omega), if_pos (by simp only [List.length_cons]; omega), e, impl_c4, Option.bind_some, impl_c4, Option.bind_some, if_pos rfl, w64 (n := c4 p.f0 + 1) (by omega) (by omega), w64 (n := c4 p.f1 + 1) (by omega) (by omega), impl_join, Option.bind_some,
      w64 (n := 0 + 1) (by omega) (by omega), show (0 : Int) + 1 = ((1 : Nat) : Int) by omega, impl_box_loop (p :: l) (by simp only [List.length_cons]; omega) l.length (k + 1) 1 _ (by omega) (by simp) (by simp) (by omega)]
    have j1 : joinB (c4 p.f0, c4 p.f1, c4 p.f0 + 1, c4 p.f1 + 1) (c4 p.f0, c4 p.f1, c4 p.f0 + 1, c4 p.f1 + 1) = oneB p := (join_one p).1
    rw [j1]
    show some (boxFrom (oneB p) l) = some (boxFrom (joinB (0, 0, 0, 0) (oneB p)) l)
    rw [(join_one p).2]

theorem eqBox_self (a b c d : Int) : laws_eqBox.f a b c d a b c d = some true := by
  unfold laws_eqBox.f
  simp

theorem eqPoints_loop (l : List S24) (hl : l.length ≤ 9223372036854775806) (d : Nat) : ∀ (k i : Nat), l.length - i = d → i ≤ l.length → d < k → laws_eqPointS.l0 k l l (i : Int) = some true := by
  induction d with
  | zero =>
    intro k i hd hi hk
    obtain ⟨k, rfl⟩ : ∃ m, k = m + 1 := ⟨k - 1, by omega⟩
    simp only [laws_eqPointS.l0]
    rw [if_neg (by omega)]
  | succ d ih =>
    intro k i hd hi hk
    obtain ⟨k, rfl⟩ : ∃ m, k = m + 1 := ⟨k - 1, by omega⟩
    simp only [laws_eqPointS.l0]
    have c1 : (i : Int) < (l.length : Int) := by omega
    have c2 : (0 : Int) ≤ (i : Int) := by omega
    have e : ∀ a b : Int, laws_eqPoint.f a b a b = some true := fun a b => by unfold laws_eqPoint.f; simp
    rw [if_pos c1, if_pos c2, if_pos c1, e, Option.bind_some, if_pos rfl, w64 (n := (i : Int) + 1) (by omega) (by omega), show (i : Int) + 1 = ((i + 1 : Nat) : Int) by omega]
    exact ih k (i + 1) (by omega) (by omega) (by omega)
theorem eqPoints_self (l : List S24) (hl : l.length ≤ 9223372036854775806) (k : Nat) (hk : l.length < k) : laws_eqPointS.f k l l = some true := by
  unfold laws_eqPointS.f
  rw [if_pos rfl]
  exact eqPoints_loop l hl l.length k 0 (by omega) (by omega) hk

def cv (p : S23) : S24 := ⟨p.f0, p.f1⟩
theorem rdL (l : List S23) (i : Nat) (h : i < l.length) : rd_T23 l (i : Int) = l[i] := by
  unfold rd_T23
  rw [show ((i : Int)).toNat = i by omega, List.getD_eq_getElem?_getD, List.getElem?_eq_getElem h]
  rfl
theorem toPoints_loop (l : List S23) (hl : l.length ≤ 1048576) (d : Nat) : ∀ (k i : Nat) (acc : List S24), l.length - i = d → i ≤ l.length → acc.length = l.length → (∀ j, j < i → acc[j]? = (l.map cv)[j]?) → d < k →
    laws_toPointS.l0 k l acc (i : Int) = some (l.map cv) := by
  induction d with
  | zero =>
    intro k i acc hd hi ha hj hk
    obtain ⟨k, rfl⟩ : ∃ m, k = m + 1 := ⟨k - 1, by omega⟩
    simp only [laws_toPointS.l0]
    rw [if_neg (by omega)]
    congr 1
    apply List.ext_getElem?
    intro j
    by_cases h : j < i
    · exact hj j h
    · rw [List.getElem?_eq_none (by omega), List.getElem?_eq_none (by simp; omega)]
  | succ d ih =>
    intro k i acc hd hi ha hj hk
    obtain ⟨k, rfl⟩ : ∃ m, k = m + 1 := ⟨k - 1, by omega⟩
    simp only [laws_toPointS.l0]
    have hlt : i < l.length := by omega
    have c1 : (i : Int) < (l.length : Int) := by omega
    have c2 : (0 : Int) ≤ (i : Int) := by omega
    have c3 : (i : Int) < (acc.length : Int) := by omega
    unfold laws_toPoint.f
    rw [if_pos c1, if_pos c2, Option.bind_some, if_pos c3, rdL l i hlt, w64 (n := (i : Int) + 1) (by omega) (by omega), show (i : Int) + 1 = ((i + 1 : Nat) : Int) by omega, show ((i : Int)).toNat = i by omega]
    refine ih k (i + 1) _ (by omega) (by omega) (by simp [ha]) (fun j hj1 => ?_) (by omega)
    rw [List.getElem?_set]
    by_cases h : i = j
    · subst h
      rw [if_pos rfl, if_pos (by omega), List.getElem?_map, List.getElem?_eq_getElem hlt]
      rfl
    · rw [if_neg h]
      exact hj j (by omega)
theorem toPoints (l : List S23) (hl : l.length ≤ 1048576) (k : Nat) (hk : l.length < k) : laws_toPointS.f k l = some (l.map cv) := by
  unfold laws_toPointS.f
  rw [if_pos (by omega), if_pos (by omega), Int.toNat_natCast]
  exact toPoints_loop l hl l.length k 0 _ (by omega) (by omega) (by simp) (fun j hj => absurd hj (by omega)) hk

theorem FnExactBoxOf (l : List S23) (hl : l.length ≤ 9223372036854775807) : ∃ k, laws_FnExactBoxOf.f k l = some true := by
  refine ⟨l.length + 10, ?_⟩
  unfold laws_FnExactBoxOf.f laws_szPointS.f
  rw [w64 (n := 1048576 - (l.length : Int)) (by omega) (by omega)]
  by_cases h : 1048576 - (l.length : Int) < 0
  · rw [if_pos h]
    rfl
  · have hs : l.length ≤ 1048576 := by omega
    rw [if_neg h, Option.bind_some, if_neg h, toPoints l hs _ (by omega), Option.bind_some, spec_box _ (by simp; omega) _ (by simp), Option.bind_some, Option.bind_some, impl_box _ (by simp; omega) _ (by simp), Option.bind_some, eqBox_self, Option.bind_some, if_pos rfl,
      Option.bind_some, eqPoints_self _ (by simp; omega) _ (by simp)]
    rfl
end Go.Proofs.Ytdlocaecdlgnjaa.Pure
