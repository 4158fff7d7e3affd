/- FnExactHull: the program's Hull and the reference's agree, for every path. -/
import Derived.Test.YtdlocaecdlgnjaaPFnExactHullx0
import Derived.Test.YtdlocaecdlgnjaaPFnExactHullx1
import Derived.Test.YtdlocaecdlgnjaaPFnExactHullx2
import Derived.Test.YtdlocaecdlgnjaaPFnExactHullx3
import Derived.Test.YtdlocaecdlgnjaaPFnExactHullx4
import Derived.Test.YtdlocaecdlgnjaaPFnExactHullx5
import Derived.Test.YtdlocaecdlgnjaaPFnExactHullx6
import Derived.Test.YtdlocaecdlgnjaaPFnExactHullx7
import Derived.Test.YtdlocaecdlgnjaaPlain
namespace Go.Proofs.Ytdlocaecdlgnjaa.Pure
open Go.RowKit Go.Proofs.Ytdlocaecdlgnjaa.PFnExactHull Go.Proofs.Ytdlocaecdlgnjaa.Plain Go.Proofs.YtdlocaecdlgnjaaW.PrintWords Go.Proofs.YtdlocaecdlgnjaaW.PrintLast

theorem spec_clamp (x lo hi : Int) : spec_Clamp.f x lo hi = some (clampI x lo hi) := by
  unfold spec_Clamp.f
  exact clampI_text x lo hi

theorem impl_clamp (x lo hi : Int) : impl_Clamp.f x lo hi = some (clampI x lo hi) := by
  unfold impl_Clamp.f
  exact clampI_text x lo hi

theorem spec_empty (a b c d : Int) : spec_Empty.f a b c d = some (emB a b c d) := by
  unfold spec_Empty.f
  exact emB_text a b c d

theorem impl_empty (a b c d : Int) : impl_Empty.f a b c d = some (emB a b c d) := by
  unfold impl_Empty.f
  exact emB_text a b c d

theorem spec_most (a b : Int) : spec_l05Most.f a b = some (mx a b) := by
  unfold spec_l05Most.f mx
  by_cases h : a < b
  · rw [if_neg (by omega), if_pos h]
  · rw [if_neg h]
    by_cases e : b < a
    · rw [if_pos (by omega)]
    · rw [if_neg (by omega), show a = b by omega]
theorem spec_least (a b : Int) : spec_l05Least.f a b = some (mn a b) := by
  unfold spec_l05Least.f mn
  by_cases h : b < a
  · rw [if_neg (by omega), if_pos h]
  · rw [if_neg h]
    by_cases e : a < b
    · rw [if_pos (by omega)]
    · rw [if_neg (by omega), show a = b by omega]

def joinB (a b : Int × Int × Int × Int) : Int × Int × Int × Int :=
  if emB a.1 a.2.1 a.2.2.1 a.2.2.2 && emB b.1 b.2.1 b.2.2.1 b.2.2.2 then (0, 0, 0, 0) else if emB a.1 a.2.1 a.2.2.1 a.2.2.2 then b else if emB b.1 b.2.1 b.2.2.1 b.2.2.2 then a
  else (mn a.1 b.1, mn a.2.1 b.2.1, mx a.2.2.1 b.2.2.1, mx a.2.2.2 b.2.2.2)

theorem spec_join (k : Nat) (a0 a1 a2 a3 b0 b1 b2 b3 : Int) : spec_JoinBox.f (k + 1) a0 a1 a2 a3 b0 b1 b2 b3 = some (joinB (a0, a1, a2, a3) (b0, b1, b2, b3)) := by
  unfold spec_JoinBox.f joinB
  simp only [spec_empty, Option.bind_some, spec_JoinBox.j0, spec_most, spec_least]
  cases emB a0 a1 a2 a3 <;> cases emB b0 b1 b2 b3 <;> simp

theorem impl_join (k : Nat) (a0 a1 a2 a3 b0 b1 b2 b3 : Int) : impl_JoinBox.f (k + 1) a0 a1 a2 a3 b0 b1 b2 b3 = some (joinB (a0, a1, a2, a3) (b0, b1, b2, b3)) := by
  unfold impl_JoinBox.f joinB
  simp only [impl_empty, Option.bind_some, impl_JoinBox.j0]
  cases emB a0 a1 a2 a3 <;> cases emB b0 b1 b2 b3 <;> simp

def c4 (x : Int) : Int := clampI x (-33554432) 33554432
theorem c4_in (x : Int) : -33554432 ≤ c4 x ∧ c4 x ≤ 33554432 := clampI_in (by omega)
theorem spec_c4 (x : Int) : spec_l05Clamp.f x = some (c4 x) := by
  unfold spec_l05Clamp.f
  rw [spec_clamp]
  rfl
theorem impl_c4 (x : Int) : impl_taken.f x 33554432 = some (c4 x) := by
  unfold impl_taken.f
  rw [w64 (by omega) (by omega), impl_clamp]
  rfl

theorem rdP (l : List S24) (i : Nat) (h : i < l.length) : rd_T24 l (i : Int) = l[i] := by
  unfold rd_T24
  rw [show ((i : Int)).toNat = i by omega, List.getD_eq_getElem?_getD, List.getElem?_eq_getElem h]
  rfl

abbrev B4 := Int × Int × Int × Int
def inB (b : B4) (x y : Int) : Prop := b.1 ≤ x ∧ x < b.2.2.1 ∧ b.2.1 ≤ y ∧ y < b.2.2.2
theorem inB_left {a b : B4} {x y : Int} (h : inB a x y) : inB (joinB a b) x y := by
  obtain ⟨a0, a1, a2, a3⟩ := a
  obtain ⟨b0, b1, b2, b3⟩ := b
  simp only [inB] at h ⊢
  have ha : emB a0 a1 a2 a3 = false := emB_false.2 (by omega)
  unfold joinB
  simp only [ha]
  cases hb : emB b0 b1 b2 b3
  · simp only [Bool.and_self, Bool.false_eq_true, if_false, mn, mx]
    refine ⟨?_, ?_, ?_, ?_⟩ <;> split <;> omega
  · simpa using h
theorem inB_right {a b : B4} {x y : Int} (h : inB b x y) : inB (joinB a b) x y := by
  obtain ⟨a0, a1, a2, a3⟩ := a
  obtain ⟨b0, b1, b2, b3⟩ := b
  simp only [inB] at h ⊢
  have hb : emB b0 b1 b2 b3 = false := emB_false.2 (by omega)
  unfold joinB
  simp only [hb]
  cases ha : emB a0 a1 a2 a3
  · simp only [Bool.and_self, Bool.false_eq_true, if_false, mn, mx]
    refine ⟨?_, ?_, ?_, ?_⟩ <;> split <;> omega
  · simpa using h
def oneB (p : S24) : B4 := (c4 p.f0, c4 p.f1, c4 p.f0 + 1, c4 p.f1 + 1)
def boxFrom (b : B4) (l : List S24) : B4 := l.foldl (fun b p => joinB b (oneB p)) b
def boxL (l : List S24) : B4 := boxFrom (0, 0, 0, 0) l
theorem boxFrom_in (l : List S24) : ∀ (b : B4) (x y : Int), inB b x y → inB (boxFrom b l) x y := by
  induction l with
  | nil => intro b x y h; exact h
  | cons p l ih => intro b x y h; exact ih _ x y (inB_left h)
theorem boxL_has (l : List S24) : ∀ (b : B4) (p : S24), p ∈ l → inB (boxFrom b l) (c4 p.f0) (c4 p.f1) := by
  induction l with
  | nil => intro b p h; simp at h
  | cons q l ih =>
    intro b p h
    rcases List.mem_cons.1 h with rfl | h
    · refine boxFrom_in l _ _ _ (inB_right ?_)
      simp only [inB, oneB]
      omega
    · exact ih _ p h
theorem spec_box_loop (l : List S24) (hl : l.length ≤ 9223372036854775806) (d : Nat) : ∀ (k i : Nat) (b : B4), l.length - i = d → i ≤ l.length → d + 1 < k → spec_BoxOf.l0 k l (i : Int) b.1 b.2.1 b.2.2.1 b.2.2.2 = some (boxFrom b (l.drop i)) := by
  induction d with
  | zero =>
    intro k i b hd hi hk
    obtain ⟨k, rfl⟩ : ∃ m, k = m + 1 := ⟨k - 1, by omega⟩
    simp only [spec_BoxOf.l0]
    rw [if_neg (by omega), List.drop_of_length_le (by omega)]
    rfl
  | succ d ih =>
    intro k i b hd hi hk
    obtain ⟨k, rfl⟩ : ∃ m, k = m + 2 := ⟨k - 2, by omega⟩
    rw [spec_BoxOf.l0]
    have hlt : i < l.length := by omega
    have c1 : (i : Int) < (l.length : Int) := by omega
    have c2 : (0 : Int) ≤ (i : Int) := by omega
    have h0 := c4_in l[i].f0
    have h1 := c4_in l[i].f1
    rw [if_pos c1, if_pos c2, rdP l i hlt, spec_c4, Option.bind_some, spec_c4, Option.bind_some, w64 (n := c4 l[i].f0 + 1) (by omega) (by omega), w64 (n := c4 l[i].f1 + 1) (by omega) (by omega), spec_join, Option.bind_some,
      w64 (n := (i : Int) + 1) (by omega) (by omega), show (i : Int) + 1 = ((i + 1 : Nat) : Int) by omega, ih (k + 1) (i + 1) _ (by omega) (by omega) (by omega), List.drop_eq_getElem_cons hlt]
    rfl
theorem spec_box (l : List S24) (hl : l.length ≤ 9223372036854775806) (k : Nat) (hk : l.length + 1 < k) : spec_BoxOf.f k l = some (boxL l) := by
  unfold spec_BoxOf.f
  have := spec_box_loop l hl l.length k 0 (0, 0, 0, 0) (by omega) (by omega) hk
  simpa [boxL] using this

theorem impl_box_loop (l : List S24) (hl : l.length ≤ 9223372036854775806) (d : Nat) : ∀ (k i : Nat) (b : B4), 0 < i → l.length - i = d → i ≤ l.length → d + 1 < k → impl_BoxOf.l0 k l (l.length : Int) (i : Int) b.1 b.2.1 b.2.2.1 b.2.2.2 = some (boxFrom b (l.drop i)) := by
  induction d with
  | zero =>
    intro k i b hp hd hi hk
    obtain ⟨k, rfl⟩ : ∃ m, k = m + 1 := ⟨k - 1, by omega⟩
    simp only [impl_BoxOf.l0]
    rw [if_neg (by omega), List.drop_of_length_le (by omega)]
    rfl
  | succ d ih =>
    intro k i b hp hd hi hk
    obtain ⟨k, rfl⟩ : ∃ m, k = m + 2 := ⟨k - 2, by omega⟩
    rw [impl_BoxOf.l0]
    have hlt : i < l.length := by omega
    have c1 : (i : Int) < (l.length : Int) := by omega
    have c2 : (0 : Int) ≤ (i : Int) := by omega
    have h0 := c4_in l[i].f0
    have h1 := c4_in l[i].f1
    rw [if_pos c1, if_pos c2, if_pos c1, rdP l i hlt, impl_c4, Option.bind_some, impl_c4, Option.bind_some, if_neg (show ¬ (i : Int) = 0 by omega), w64 (n := c4 l[i].f0 + 1) (by omega) (by omega), w64 (n := c4 l[i].f1 + 1) (by omega) (by omega), impl_join, Option.bind_some,
      w64 (n := (i : Int) + 1) (by omega) (by omega), show (i : Int) + 1 = ((i + 1 : Nat) : Int) by omega, ih (k + 1) (i + 1) _ (by omega) (by omega) (by omega) (by omega), List.drop_eq_getElem_cons hlt]
    rfl
theorem join_one (p : S24) : joinB (oneB p) (oneB p) = oneB p ∧ joinB (0, 0, 0, 0) (oneB p) = oneB p := by
  have e : emB (c4 p.f0) (c4 p.f1) (c4 p.f0 + 1) (c4 p.f1 + 1) = false := emB_false.2 (by omega)
  have e0 : emB 0 0 0 0 = true := rfl
  constructor
  · unfold joinB oneB
    simp only [e, Bool.and_self, Bool.false_eq_true, if_false, mn, mx]
    simp
  · unfold joinB oneB
    simp only [e, e0, Bool.and_false, Bool.false_eq_true, if_false, if_true]
theorem impl_box (l : List S24) (hl : l.length ≤ 9223372036854775806) (k : Nat) (hk : l.length + 2 < k) : impl_BoxOf.f k l = some (boxL l) := by
  unfold impl_BoxOf.f
  obtain ⟨k, rfl⟩ : ∃ m, k = m + 2 := ⟨k - 2, by omega⟩
  match l, hl, hk with
  | [], _, _ => simp [impl_BoxOf.l0, boxL, boxFrom]
  | p :: l, hl, hk =>
    rw [impl_BoxOf.l0]
    have h0 := c4_in p.f0
    have h1 := c4_in p.f1
    have e : rd_T24 (p :: l) 0 = p := rfl
    simp only [List.length_cons] at hl hk
    rw [if_pos (by simp only [List.length_cons]; omega), if_pos (by omega), if_pos (by simp only [List.length_cons]; omega), e, impl_c4, Option.bind_some, impl_c4, Option.bind_some, if_pos rfl, w64 (n := c4 p.f0 + 1) (by omega) (by omega), w64 (n := c4 p.f1 + 1) (by omega) (by omega), impl_join, Option.bind_some,
      w64 (n := 0 + 1) (by omega) (by omega), show (0 : Int) + 1 = ((1 : Nat) : Int) by omega, impl_box_loop (p :: l) (by simp only [List.length_cons]; omega) l.length (k + 1) 1 _ (by omega) (by simp) (by simp) (by omega)]
    have j1 : joinB (c4 p.f0, c4 p.f1, c4 p.f0 + 1, c4 p.f1 + 1) (c4 p.f0, c4 p.f1, c4 p.f0 + 1, c4 p.f1 + 1) = oneB p := (join_one p).1
    rw [j1]
    show some (boxFrom (oneB p) l) = some (boxFrom (joinB (0, 0, 0, 0) (oneB p)) l)
    rw [(join_one p).2]

theorem eqBox_self (a b c d : Int) : laws_eqBox.f a b c d a b c d = some true := by
  unfold laws_eqBox.f
  simp

def farB (x : Int) : Bool := decide (-8388608 ≤ x) && decide (x ≤ 8388608)
theorem farB_true {x : Int} : farB x = true ↔ -8388608 ≤ x ∧ x ≤ 8388608 := by simp [farB]

theorem spec_far (x : Int) : spec_l01In.f x (-8388608) 8388608 = some (farB x) := by
  unfold spec_l01In.f farB
  by_cases h : -8388608 ≤ x
  · rw [if_pos h]
    simp [h]
  · rw [if_neg h]
    simp [h]
theorem spec_pointOk (x y : Int) : spec_PointOk.f x y = some (farB x && farB y) := by
  unfold spec_PointOk.f
  rw [spec_far, spec_far]
  cases farB x <;> rfl

theorem impl_far (x : Int) : impl_isFar.f x = some (farB x) := by
  unfold impl_isFar.f impl_inRange.f farB
  by_cases h : -8388608 ≤ x
  · rw [if_pos h]
    simp [h]
  · rw [if_neg h]
    simp [h]
theorem impl_pointOk (x y : Int) : impl_PointOk.f x y = some (farB x && farB y) := by
  unfold impl_PointOk.f
  rw [impl_far, impl_far]
  cases farB x <;> rfl

theorem rdI (l : List Int) (i : Nat) (h : i < l.length) : rd l (i : Int) = l[i] := by
  unfold rd
  rw [show ((i : Int)).toNat = i by omega, List.getD_eq_getElem?_getD, List.getElem?_eq_getElem h]
  rfl

def okP (p : S24) : Bool := farB p.f0 && farB p.f1
theorem points_loop (l : List S24) (hl : l.length ≤ 9223372036854775806) (d : Nat) : ∀ (k i : Nat), l.length - i = d → i ≤ l.length → d < k → impl_pointsOk.l0 k l (l.length : Int) (i : Int) = some ((l.drop i).all okP) := by
  induction d with
  | zero =>
    intro k i hd hi hk
    obtain ⟨k, rfl⟩ : ∃ m, k = m + 1 := ⟨k - 1, by omega⟩
    simp only [impl_pointsOk.l0]
    rw [if_neg (by omega), List.drop_of_length_le (by omega)]
    rfl
  | succ d ih =>
    intro k i hd hi hk
    obtain ⟨k, rfl⟩ : ∃ m, k = m + 1 := ⟨k - 1, by omega⟩
    simp only [impl_pointsOk.l0]
    have hlt : i < l.length := by omega
    have c1 : (i : Int) < (l.length : Int) := by omega
    have c2 : (0 : Int) ≤ (i : Int) := by omega
    rw [if_pos c1, if_pos c2, if_pos c1, impl_pointOk, rdP l i hlt, w64 (n := (i : Int) + 1) (by omega) (by omega), show (i : Int) + 1 = ((i + 1 : Nat) : Int) by omega, ih k (i + 1) (by omega) (by omega) (by omega), List.drop_eq_getElem_cons hlt]
    simp only [Option.bind_some, List.all_cons, okP]
    cases farB l[i].f0 <;> cases farB l[i].f1 <;> simp
theorem points_ok (l : List S24) (hl : l.length ≤ 9223372036854775806) (k : Nat) (hk : l.length < k) : impl_pointsOk.f k l = some (l.all okP) := by
  unfold impl_pointsOk.f
  have := points_loop l hl l.length k 0 (by omega) (by omega) hk
  simpa using this

def needI (a : Int) : Int := if a = 1 then 1 else if a = 2 then 1 else if a = 3 then 2 else if a = 4 then 3 else if a = 5 then 0 else -1
theorem needI_in (a : Int) : -1 ≤ needI a ∧ needI a ≤ 3 := by
  unfold needI
  repeat (first | omega | split)
theorem needI_ok {a : Int} (h : 0 ≤ needI a) : 1 ≤ a ∧ a ≤ 5 := by
  unfold needI at h
  repeat (first | omega | (split at h))
theorem spec_need (a : Int) : spec_NeedOf.f a = some (needI a) := by
  by_cases h : 1 ≤ a ∧ a ≤ 5
  · have hc : a = 1 ∨ a = 2 ∨ a = 3 ∨ a = 4 ∨ a = 5 := by omega
    rcases hc with rfl | rfl | rfl | rfl | rfl <;> decide +kernel
  · have e : spec_l01In.f a 1 5 = some false := by
      unfold spec_l01In.f
      by_cases h1 : a ≥ 1
      · rw [if_pos h1, decide_eq_false (by omega)]
      · rw [if_neg h1]
    have h1 : ¬ a = 1 := by omega
    have h2 : ¬ a = 2 := by omega
    have h3 : ¬ a = 3 := by omega
    have h4 : ¬ a = 4 := by omega
    have h5 : ¬ a = 5 := by omega
    unfold spec_NeedOf.f needI
    rw [Option.bind_some, e]
    simp [h1, h2, h3, h4, h5]
theorem impl_need (k : Nat) (a : Int) : impl_NeedOf.f (k + 1) a = some (needI a) := by
  unfold impl_NeedOf.f needI
  by_cases h1 : a = 1
  · subst h1
    simp [impl_NeedOf.j0]
  · rw [if_neg h1, if_neg h1]
    by_cases h2 : a = 2
    · subst h2
      simp [impl_NeedOf.j0]
    · have e : (a == 2) = false := beq_eq_false_iff_ne.mpr h2
      simp only [impl_NeedOf.j0, e, if_neg h2, Bool.false_eq_true, if_false]
      repeat (first | rfl | split)

/-- The verbs gone through: how many points they take together; none where one is wrong. -/
def scanV : List Int → Bool → Int → Option Int
  | [], _, m => some m
  | v :: vs, b, m => if needI v < 0 then none else if b = true ∧ v ≠ 1 then none else scanV vs (v == 5) (m + needI v)
def pathB (v : List Int) (p : List S24) : Bool :=
  if p.length > 24 ∨ v.length > 24 then false else p.all okP && (match scanV v true 0 with | none => false | some m => m == (p.length : Int))
def beginsAt (v : List Int) (i : Nat) : Bool := if i = 0 then true else v[i - 1]?.getD 0 == 5
theorem spec_points_loop (v : List Int) (p : List S24) (m : Int) (hl : p.length ≤ 24) (d : Nat) : ∀ (k i : Nat), p.length - i = d → i ≤ p.length → d < k → spec_PathOk.l1 k m (i : Int) v p = some ((p.drop i).all okP && (m == (p.length : Int))) := by
  induction d with
  | zero =>
    intro k i hd hi hk
    obtain ⟨k, rfl⟩ : ∃ m, k = m + 1 := ⟨k - 1, by omega⟩
    simp only [spec_PathOk.l1]
    rw [if_neg (by omega), List.drop_of_length_le (by omega)]
    simp
  | succ d ih =>
    intro k i hd hi hk
    obtain ⟨k, rfl⟩ : ∃ m, k = m + 1 := ⟨k - 1, by omega⟩
    simp only [spec_PathOk.l1]
    have hlt : i < p.length := by omega
    have c1 : (i : Int) < (p.length : Int) := by omega
    have c2 : (0 : Int) ≤ (i : Int) := by omega
    rw [if_pos c1, if_pos c2, spec_pointOk, rdP p i hlt, w64 (n := (i : Int) + 1) (by omega) (by omega), show (i : Int) + 1 = ((i + 1 : Nat) : Int) by omega, ih k (i + 1) (by omega) (by omega) (by omega), List.drop_eq_getElem_cons hlt]
    simp only [Option.bind_some, List.all_cons, okP]
    cases farB p[i].f0 <;> cases farB p[i].f1 <;> simp
theorem verbs_loop (v : List Int) (p : List S24) (hv : v.length ≤ 24) (hp : p.length ≤ 24) (d : Nat) : ∀ (k i : Nat) (m : Int), v.length - i = d → i ≤ v.length → 0 ≤ m → m ≤ 3 * (i : Int) → d + 30 < k →
    spec_PathOk.l0 k m (i : Int) v p = some (match scanV (v.drop i) (beginsAt v i) m with | none => false | some m => p.all okP && (m == (p.length : Int))) ∧
    impl_PathOk.l0 k m v (v.length : Int) (i : Int) v p = some (match scanV (v.drop i) (beginsAt v i) m with | none => false | some m => m == (p.length : Int)) := by
  induction d with
  | zero =>
    intro k i m hd hi h0 h1 hk
    obtain ⟨k, rfl⟩ : ∃ m, k = m + 1 := ⟨k - 1, by omega⟩
    simp only [spec_PathOk.l0, impl_PathOk.l0]
    rw [if_neg (by omega), if_neg (by omega), List.drop_of_length_le (by omega), show (0 : Int) = ((0 : Nat) : Int) from rfl, spec_points_loop v p m hp p.length k 0 (by omega) (by omega) (by omega)]
    simp [scanV]
  | succ d ih =>
    intro k i m hd hi h0 h1 hk
    obtain ⟨k, rfl⟩ : ∃ m, k = m + 2 := ⟨k - 2, by omega⟩
    rw [spec_PathOk.l0, impl_PathOk.l0]
    have hlt : i < v.length := by omega
    have c1 : (i : Int) < (v.length : Int) := by omega
    have c2 : (0 : Int) ≤ (i : Int) := by omega
    have hn := needI_in v[i]
    rw [if_pos c1, if_pos c2, if_pos c1, if_pos c2, if_pos c1, rdI v i hlt, spec_need, Option.bind_some, impl_need, Option.bind_some, List.drop_eq_getElem_cons hlt]
    simp only [scanV]
    have hw : wrap64 ((i : Int) + 1) = ((i + 1 : Nat) : Int) := by rw [w64 (by omega) (by omega)]; omega
    have hm : wrap64 (m + needI v[i]) = m + needI v[i] := w64 (by omega) (by omega)
    rw [hw, hm]
    have hb : beginsAt v (i + 1) = (v[i] == 5) := by
      unfold beginsAt
      rw [if_neg (by omega), Nat.add_sub_cancel, List.getElem?_eq_getElem hlt]
      rfl
    by_cases hneg : needI v[i] < 0
    · simp only [if_pos hneg]
      by_cases hi0 : (i : Int) = 0
      · rw [if_pos hi0]
        exact ⟨trivial, rfl⟩
      · have e1 : wrap64 ((i : Int) - 1) = ((i - 1 : Nat) : Int) := by rw [w64 (by omega) (by omega)]; omega
        rw [if_neg hi0, e1, if_pos (show (0 : Int) ≤ ((i - 1 : Nat) : Int) by omega), if_pos (show ((i - 1 : Nat) : Int) < (v.length : Int) by omega)]
        exact ⟨trivial, rfl⟩
    · have ⟨g1, g2⟩ := ih (k + 1) (i + 1) (m + needI v[i]) (by omega) (by omega) (by omega) (by omega) (by omega)
      rw [hb] at g1 g2
      simp only [if_neg hneg]
      by_cases hi0 : (i : Int) = 0
      · have hbi : beginsAt v i = true := by
          unfold beginsAt
          rw [if_pos (by omega)]
        rw [if_pos hi0, if_pos hi0, hbi]
        by_cases h1v : v[i] = 1
        · rw [if_pos h1v, if_pos h1v, if_neg (by simp [h1v])]
          exact ⟨g1, g2⟩
        · rw [if_neg h1v, if_neg h1v, if_pos (by simp [h1v])]
          exact ⟨rfl, rfl⟩
      · have e1 : wrap64 ((i : Int) - 1) = ((i - 1 : Nat) : Int) := by rw [w64 (by omega) (by omega)]; omega
        have c5 : (0 : Int) ≤ ((i - 1 : Nat) : Int) := by omega
        have c6 : ((i - 1 : Nat) : Int) < (v.length : Int) := by omega
        have hbi : beginsAt v i = (v[i - 1] == 5) := by
          unfold beginsAt
          rw [if_neg (by omega), List.getElem?_eq_getElem (by omega)]
          rfl
        rw [if_neg hi0, if_neg hi0, e1, if_pos c5, if_pos c6, if_pos c5, if_pos c6, rdI v (i - 1) (by omega), hbi]
        by_cases h5 : v[i - 1] = 5
        · rw [if_pos h5, if_pos h5]
          by_cases h1v : v[i] = 1
          · rw [if_pos h1v, if_pos h1v, if_neg (by simp [h1v])]
            exact ⟨g1, g2⟩
          · rw [if_neg h1v, if_neg h1v, if_pos (by simp [h1v, h5])]
            exact ⟨rfl, rfl⟩
        · rw [if_neg h5, if_neg h5, if_neg (by simp [h5])]
          exact ⟨g1, g2⟩
theorem spec_path (v : List Int) (p : List S24) (k : Nat) (hk : 60 < k) : spec_PathOk.f k v p = some (pathB v p) := by
  obtain ⟨k, rfl⟩ : ∃ m, k = m + 1 := ⟨k - 1, by omega⟩
  unfold spec_PathOk.f pathB
  by_cases h1 : (p.length : Int) > 24
  · rw [if_pos h1, if_pos (.inl (by omega))]
    simp [spec_PathOk.j0]
  · rw [if_neg h1]
    by_cases h2 : (v.length : Int) > 24
    · rw [decide_eq_true h2, if_pos (.inr (by omega))]
      simp [spec_PathOk.j0]
    · rw [decide_eq_false h2, if_neg (by omega)]
      have := (verbs_loop v p (by omega) (by omega) v.length k 0 0 (by omega) (by omega) (by omega) (by omega) (by omega)).1
      simp only [spec_PathOk.j0, Bool.false_eq_true, if_false]
      rw [show ((0 : Nat) : Int) = 0 from rfl] at this
      rw [this, List.drop_zero]
      have hb : beginsAt v 0 = true := rfl
      rw [hb]
      cases scanV v true 0 <;> simp
theorem impl_path (v : List Int) (p : List S24) (k : Nat) (hk : 60 < k) : impl_PathOk.f k v p = some (pathB v p) := by
  obtain ⟨k, rfl⟩ : ∃ m, k = m + 1 := ⟨k - 1, by omega⟩
  unfold impl_PathOk.f pathB
  by_cases h1 : (p.length : Int) > 24
  · rw [if_pos h1, if_pos (.inl (by omega))]
    simp [impl_PathOk.j0]
  · rw [if_neg h1]
    by_cases h2 : (v.length : Int) > 24
    · rw [if_pos h2, if_pos (.inr (by omega))]
      simp [impl_PathOk.j0]
    · rw [if_neg h2, if_neg (by omega), points_ok p (by omega) _ (by omega)]
      simp only [Option.bind_some, impl_PathOk.j0]
      cases hp : p.all okP
      · simp
      · have := (verbs_loop v p (by omega) (by omega) v.length k 0 0 (by omega) (by omega) (by omega) (by omega) (by omega)).2
        rw [show ((0 : Nat) : Int) = 0 from rfl] at this
        simp only [Bool.not_true, Bool.false_eq_true, if_false]
        rw [this, List.drop_zero]
        have hb : beginsAt v 0 = true := rfl
        rw [hb]
        cases scanV v true 0 <;> simp

theorem eqInts_loop (l : List Int) (hl : l.length ≤ 9223372036854775806) (d : Nat) : ∀ (k i : Nat), l.length - i = d → i ≤ l.length → d < k → laws_eqIntS.l0 k l l (i : Int) = some true := by
  induction d with
  | zero =>
    intro k i hd hi hk
    obtain ⟨k, rfl⟩ : ∃ m, k = m + 1 := ⟨k - 1, by omega⟩
    simp only [laws_eqIntS.l0]
    rw [if_neg (by omega)]
  | succ d ih =>
    intro k i hd hi hk
    obtain ⟨k, rfl⟩ : ∃ m, k = m + 1 := ⟨k - 1, by omega⟩
    simp only [laws_eqIntS.l0]
    have c1 : (i : Int) < (l.length : Int) := by omega
    have c2 : (0 : Int) ≤ (i : Int) := by omega
    rw [if_pos c1, if_pos c2, if_pos c1, if_pos trivial, w64 (n := (i : Int) + 1) (by omega) (by omega), show (i : Int) + 1 = ((i + 1 : Nat) : Int) by omega]
    exact ih k (i + 1) (by omega) (by omega) (by omega)
theorem eqInts_self (l : List Int) (hl : l.length ≤ 9223372036854775806) (k : Nat) (hk : l.length < k) : laws_eqIntS.f k l l = some true := by
  unfold laws_eqIntS.f
  rw [if_pos rfl]
  exact eqInts_loop l hl l.length k 0 (by omega) (by omega) hk

theorem eqPoints_loop (l : List S24) (hl : l.length ≤ 9223372036854775806) (d : Nat) : ∀ (k i : Nat), l.length - i = d → i ≤ l.length → d < k → laws_eqPointS.l0 k l l (i : Int) = some true := by
  induction d with
  | zero =>
    intro k i hd hi hk
    obtain ⟨k, rfl⟩ : ∃ m, k = m + 1 := ⟨k - 1, by omega⟩
    simp only [laws_eqPointS.l0]
    rw [if_neg (by omega)]
  | succ d ih =>
    intro k i hd hi hk
    obtain ⟨k, rfl⟩ : ∃ m, k = m + 1 := ⟨k - 1, by omega⟩
    simp only [laws_eqPointS.l0]
    have c1 : (i : Int) < (l.length : Int) := by omega
    have c2 : (0 : Int) ≤ (i : Int) := by omega
    have e : ∀ a b : Int, laws_eqPoint.f a b a b = some true := fun a b => by unfold laws_eqPoint.f; simp
    rw [if_pos c1, if_pos c2, if_pos c1, e, Option.bind_some, if_pos rfl, w64 (n := (i : Int) + 1) (by omega) (by omega), show (i : Int) + 1 = ((i + 1 : Nat) : Int) by omega]
    exact ih k (i + 1) (by omega) (by omega) (by omega)
theorem eqPoints_self (l : List S24) (hl : l.length ≤ 9223372036854775806) (k : Nat) (hk : l.length < k) : laws_eqPointS.f k l l = some true := by
  unfold laws_eqPointS.f
  rw [if_pos rfl]
  exact eqPoints_loop l hl l.length k 0 (by omega) (by omega) hk

theorem eqPath_self (v : List Int) (p : List S24) (hv : v.length ≤ 9223372036854775806) (hp : p.length ≤ 9223372036854775806) (k : Nat) (h1 : v.length < k) (h2 : p.length < k) : laws_eqPath.f k v p v p = some true := by
  unfold laws_eqPath.f
  rw [eqInts_self v hv k h1, eqPoints_self p hp k h2]
  rfl

def cv (p : S23) : S24 := ⟨p.f0, p.f1⟩
theorem rdL (l : List S23) (i : Nat) (h : i < l.length) : rd_T23 l (i : Int) = l[i] := by
  unfold rd_T23
  rw [show ((i : Int)).toNat = i by omega, List.getD_eq_getElem?_getD, List.getElem?_eq_getElem h]
  rfl
theorem toPoints_loop (l : List S23) (hl : l.length ≤ 1048576) (d : Nat) : ∀ (k i : Nat) (acc : List S24), l.length - i = d → i ≤ l.length → acc.length = l.length → (∀ j, j < i → acc[j]? = (l.map cv)[j]?) → d < k →
    laws_toPointS.l0 k l acc (i : Int) = some (l.map cv) := by
  induction d with
  | zero =>
    intro k i acc hd hi ha hj hk
    obtain ⟨k, rfl⟩ : ∃ m, k = m + 1 := ⟨k - 1, by omega⟩
    simp only [laws_toPointS.l0]
    rw [if_neg (by omega)]
    congr 1
    apply List.ext_getElem?
    intro j
    by_cases h : j < i
    · exact hj j h
    · rw [List.getElem?_eq_none (by omega), List.getElem?_eq_none (by simp; omega)]
  | succ d ih =>
    intro k i acc hd hi ha hj hk
    obtain ⟨k, rfl⟩ : ∃ m, k = m + 1 := ⟨k - 1, by omega⟩
    simp only [laws_toPointS.l0]
    have hlt : i < l.length := by omega
    have c1 : (i : Int) < (l.length : Int) := by omega
    have c2 : (0 : Int) ≤ (i : Int) := by omega
    have c3 : (i : Int) < (acc.length : Int) := by omega
    unfold laws_toPoint.f
    rw [if_pos c1, if_pos c2, Option.bind_some, if_pos c3, rdL l i hlt, w64 (n := (i : Int) + 1) (by omega) (by omega), show (i : Int) + 1 = ((i + 1 : Nat) : Int) by omega, show ((i : Int)).toNat = i by omega]
    refine ih k (i + 1) _ (by omega) (by omega) (by simp [ha]) (fun j hj1 => ?_) (by omega)
    rw [List.getElem?_set]
    by_cases h : i = j
    · subst h
      rw [if_pos rfl, if_pos (by omega), List.getElem?_map, List.getElem?_eq_getElem hlt]
      rfl
    · rw [if_neg h]
      exact hj j (by omega)
theorem toPoints (l : List S23) (hl : l.length ≤ 1048576) (k : Nat) (hk : l.length < k) : laws_toPointS.f k l = some (l.map cv) := by
  unfold laws_toPointS.f
  rw [if_pos (by omega), if_pos (by omega), Int.toNat_natCast]
  exact toPoints_loop l hl l.length k 0 _ (by omega) (by omega) (by simp) (fun j hj => absurd hj (by omega)) hk

theorem toInts_loop (l : List Int) (hl : l.length ≤ 1048576) (d : Nat) : ∀ (k i : Nat) (acc : List Int), l.length - i = d → i ≤ l.length → acc.length = l.length → (∀ j, j < i → acc[j]? = l[j]?) → d < k →
    laws_toIntS.l0 k l acc (i : Int) = some l := by
  induction d with
  | zero =>
    intro k i acc hd hi ha hj hk
    obtain ⟨k, rfl⟩ : ∃ m, k = m + 1 := ⟨k - 1, by omega⟩
    simp only [laws_toIntS.l0]
    rw [if_neg (by omega)]
    congr 1
    apply List.ext_getElem?
    intro j
    by_cases h : j < i
    · exact hj j h
    · rw [List.getElem?_eq_none (by omega), List.getElem?_eq_none (by omega)]
  | succ d ih =>
    intro k i acc hd hi ha hj hk
    obtain ⟨k, rfl⟩ : ∃ m, k = m + 1 := ⟨k - 1, by omega⟩
    simp only [laws_toIntS.l0]
    have hlt : i < l.length := by omega
    have c1 : (i : Int) < (l.length : Int) := by omega
    have c2 : (0 : Int) ≤ (i : Int) := by omega
    have c3 : (i : Int) < (acc.length : Int) := by omega
    rw [if_pos c1, if_pos c2, if_pos c3, rdI l i hlt, w64 (n := (i : Int) + 1) (by omega) (by omega), show (i : Int) + 1 = ((i + 1 : Nat) : Int) by omega, show ((i : Int)).toNat = i by omega]
    refine ih k (i + 1) _ (by omega) (by omega) (by simp [ha]) (fun j hj1 => ?_) (by omega)
    rw [List.getElem?_set]
    by_cases h : i = j
    · subst h
      rw [if_pos rfl, if_pos (by omega), List.getElem?_eq_getElem hlt]
    · rw [if_neg h]
      exact hj j (by omega)
theorem toInts (l : List Int) (hl : l.length ≤ 1048576) (k : Nat) (hk : l.length < k) : laws_toIntS.f k l = some l := by
  unfold laws_toIntS.f
  rw [if_pos (by omega), if_pos (by omega), Int.toNat_natCast]
  exact toInts_loop l hl l.length k 0 _ (by omega) (by omega) (by simp) (fun j hj => absurd hj (by omega)) hk
theorem toPath (v : List Int) (p : List S23) (hv : v.length ≤ 1048576) (hp : p.length ≤ 1048576) (k : Nat) (h1 : v.length < k) (h2 : p.length < k) : laws_toPath.f k v p = some (v, p.map cv) := by
  unfold laws_toPath.f
  rw [toInts v hv k h1, Option.bind_some, toPoints p hp k h2]
  rfl
theorem szPath (v : List Int) (p : List S23) (hv : v.length ≤ 9223372036854775807) (hp : p.length ≤ 9223372036854775807) :
    ∃ r : Int, laws_szPath.f v p 1048576 = some r ∧ (0 ≤ r → v.length ≤ 1048576 ∧ p.length ≤ 1048576) := by
  unfold laws_szPath.f laws_szIntS.f laws_szPointS.f
  rw [w64 (n := 1048576 - (v.length : Int)) (by omega) (by omega)]
  by_cases h : 1048576 - (v.length : Int) < 0
  · rw [if_pos h]
    exact ⟨-1, rfl, fun h => absurd h (by decide)⟩
  · rw [if_neg h, Option.bind_some, if_neg h, w64 (n := 1048576 - (v.length : Int) - (p.length : Int)) (by omega) (by omega)]
    by_cases g : 1048576 - (v.length : Int) - (p.length : Int) < 0
    · rw [if_pos g]
      exact ⟨-1, rfl, fun h => absurd h (by decide)⟩
    · rw [if_neg g, Option.bind_some, if_neg g]
      exact ⟨_, rfl, fun _ => by omega⟩

theorem FnExactHull (v : List Int) (p : List S23) (hv : v.length ≤ 9223372036854775807) (hp : p.length ≤ 9223372036854775807) : ∃ k, laws_FnExactHull.f k v p = some true := by
  refine ⟨v.length + p.length + 100, ?_⟩
  unfold laws_FnExactHull.f
  obtain ⟨r, hr, hs⟩ := szPath v p hv hp
  rw [hr, Option.bind_some]
  by_cases h : r < 0
  · rw [if_pos h]
  · have ⟨h1, h2⟩ := hs (by omega)
    rw [if_neg h, toPath v p h1 h2 _ (by omega) (by omega)]
    unfold spec_Hull.f impl_Hull.f
    simp only [Option.bind_some]
    rw [spec_path _ _ _ (by omega), impl_path _ _ _ (by omega), spec_box _ (by simp; omega) _ (by simp; omega), impl_box _ (by simp; omega) _ (by simp; omega), eqPath_self _ _ (by omega) (by simp; omega) _ (by omega) (by simp; omega)]
    cases pathB v (p.map cv) <;> simp [eqBox_self]
end Go.Proofs.Ytdlocaecdlgnjaa.Pure
