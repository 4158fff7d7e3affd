/- FnExactMovePath: the program's MovePath and the reference's agree, for every matrix and every path. -/
import Derived.Test.YtdlocaecdlgnjaaQFnExactMovePathx0
import Derived.Test.YtdlocaecdlgnjaaQFnExactMovePathx1
import Derived.Test.YtdlocaecdlgnjaaQFnExactMovePathx2
import Derived.Test.YtdlocaecdlgnjaaQFnExactMovePathx3
import Derived.Test.YtdlocaecdlgnjaaQFnExactMovePathx4
import Derived.Test.YtdlocaecdlgnjaaQFnExactMovePathx5
import Derived.Test.YtdlocaecdlgnjaaQFnExactMovePathx6
import Derived.Test.YtdlocaecdlgnjaaQFnExactMovePathx7
import Derived.Test.YtdlocaecdlgnjaaQFnExactMovePathx8
import Derived.Test.YtdlocaecdlgnjaaPlain
namespace Go.Proofs.Ytdlocaecdlgnjaa.Pure
open Go.RowKit Go.Proofs.Ytdlocaecdlgnjaa.PFnExactMovePath Go.Proofs.Ytdlocaecdlgnjaa.Plain Go.Proofs.YtdlocaecdlgnjaaW.PrintWords Go.Proofs.YtdlocaecdlgnjaaW.PrintLast

theorem spec_clamp (x lo hi : Int) : spec_Clamp.f x lo hi = some (clampI x lo hi) := by
  unfold spec_Clamp.f
  exact clampI_text x lo hi

theorem impl_clamp (x lo hi : Int) : impl_Clamp.f x lo hi = some (clampI x lo hi) := by
  unfold impl_Clamp.f
  exact clampI_text x lo hi

def farB (x : Int) : Bool := decide (-8388608 ≤ x) && decide (x ≤ 8388608)
theorem farB_true {x : Int} : farB x = true ↔ -8388608 ≤ x ∧ x ≤ 8388608 := by simp [farB]

theorem spec_far (x : Int) : spec_l01In.f x (-8388608) 8388608 = some (farB x) := by
  unfold spec_l01In.f farB
  by_cases h : -8388608 ≤ x
  · rw [if_pos h]
    simp [h]
  · rw [if_neg h]
    simp [h]
theorem spec_pointOk (x y : Int) : spec_PointOk.f x y = some (farB x && farB y) := by
  unfold spec_PointOk.f
  rw [spec_far, spec_far]
  cases farB x <;> rfl

theorem impl_far (x : Int) : impl_isFar.f x = some (farB x) := by
  unfold impl_isFar.f impl_inRange.f farB
  by_cases h : -8388608 ≤ x
  · rw [if_pos h]
    simp [h]
  · rw [if_neg h]
    simp [h]
theorem impl_pointOk (x y : Int) : impl_PointOk.f x y = some (farB x && farB y) := by
  unfold impl_PointOk.f
  rw [impl_far, impl_far]
  cases farB x <;> rfl

theorem rdP (l : List S24) (i : Nat) (h : i < l.length) : rd_T24 l (i : Int) = l[i] := by
  unfold rd_T24
  rw [show ((i : Int)).toNat = i by omega, List.getD_eq_getElem?_getD, List.getElem?_eq_getElem h]
  rfl

theorem rdI (l : List Int) (i : Nat) (h : i < l.length) : rd l (i : Int) = l[i] := by
  unfold rd
  rw [show ((i : Int)).toNat = i by omega, List.getD_eq_getElem?_getD, List.getElem?_eq_getElem h]
  rfl

def okP (p : S24) : Bool := farB p.f0 && farB p.f1
theorem points_loop (l : List S24) (hl : l.length ≤ 9223372036854775806) (d : Nat) : ∀ (k i : Nat), l.length - i = d → i ≤ l.length → d < k → impl_pointsOk.l0 k l (l.length : Int) (i : Int) = some ((l.drop i).all okP) := by
  induction d with
  | zero =>
    intro k i hd hi hk
    obtain ⟨k, rfl⟩ : ∃ m, k = m + 1 := ⟨k - 1, by omega⟩
    simp only [impl_pointsOk.l0]
    rw [if_neg (by omega), List.drop_of_length_le (by omega)]
    rfl
  | succ d ih =>
    intro k i hd hi hk
    obtain ⟨k, rfl⟩ : ∃ m, k = m + 1 := ⟨k - 1, by omega⟩
    simp only [impl_pointsOk.l0]
    have hlt : i < l.length := by omega
    have c1 : (i : Int) < (l.length : Int) := by omega
    have c2 : (0 : Int) ≤ (i : Int) := by omega
    rw [if_pos c1, if_pos c2, if_pos c1, impl_pointOk, rdP l i hlt, w64 (n := (i : Int) + 1) (by omega) (by omega), show (i : Int) + 1 = ((i + 1 : Nat) : Int) by omega, ih k (i + 1) (by omega) (by omega) (by omega), List.drop_eq_getElem_cons hlt]
    simp only [Option.bind_some, List.all_cons, okP]
    cases farB l[i].f0 <;> cases farB l[i].f1 <;> simp
theorem points_ok (l : List S24) (hl : l.length ≤ 9223372036854775806) (k : Nat) (hk : l.length < k) : impl_pointsOk.f k l = some (l.all okP) := by
  unfold impl_pointsOk.f
  have := points_loop l hl l.length k 0 (by omega) (by omega) hk
  simpa using this

def needI (a : Int) : Int := if a = 1 then 1 else if a = 2 then 1 else if a = 3 then 2 else if a = 4 then 3 else if a = 5 then 0 else -1
theorem needI_in (a : Int) : -1 ≤ needI a ∧ needI a ≤ 3 := by
  unfold needI
  repeat (first | omega | split)
theorem needI_ok {a : Int} (h : 0 ≤ needI a) : 1 ≤ a ∧ a ≤ 5 := by
  unfold needI at h
  repeat (first | omega | (split at h))
theorem spec_need (a : Int) : spec_NeedOf.f a = some (needI a) := by
  by_cases h : 1 ≤ a ∧ a ≤ 5
  · have hc : a = 1 ∨ a = 2 ∨ a = 3 ∨ a = 4 ∨ a = 5 := by omega
    rcases hc with rfl | rfl | rfl | rfl | rfl <;> decide +kernel
  · have e : spec_l01In.f a 1 5 = some false := by
      unfold spec_l01In.f
      by_cases h1 : a ≥ 1
      · rw [if_pos h1, decide_eq_false (by omega)]
      · rw [if_neg h1]
    have h1 : ¬ a = 1 := by omega
    have h2 : ¬ a = 2 := by omega
    have h3 : ¬ a = 3 := by omega
    have h4 : ¬ a = 4 := by omega
    have h5 : ¬ a = 5 := by omega
    unfold spec_NeedOf.f needI
    rw [Option.bind_some, e]
    simp [h1, h2, h3, h4, h5]
theorem impl_need (k : Nat) (a : Int) : impl_NeedOf.f (k + 1) a = some (needI a) := by
  unfold impl_NeedOf.f needI
  by_cases h1 : a = 1
  · subst h1
    simp [impl_NeedOf.j0]
  · rw [if_neg h1, if_neg h1]
    by_cases h2 : a = 2
    · subst h2
      simp [impl_NeedOf.j0]
    · have e : (a == 2) = false := beq_eq_false_iff_ne.mpr h2
      simp only [impl_NeedOf.j0, e, if_neg h2, Bool.false_eq_true, if_false]
      repeat (first | rfl | split)

/-- The verbs gone through: how many points they take together; none where one is wrong. -/
def scanV : List Int → Bool → Int → Option Int
  | [], _, m => some m
  | v :: vs, b, m => if needI v < 0 then none else if b = true ∧ v ≠ 1 then none else scanV vs (v == 5) (m + needI v)
def pathB (v : List Int) (p : List S24) : Bool :=
  if p.length > 24 ∨ v.length > 24 then false else p.all okP && (match scanV v true 0 with | none => false | some m => m == (p.length : Int))
def beginsAt (v : List Int) (i : Nat) : Bool := if i = 0 then true else v[i - 1]?.getD 0 == 5
theorem spec_points_loop (v : List Int) (p : List S24) (m : Int) (hl : p.length ≤ 24) (d : Nat) : ∀ (k i : Nat), p.length - i = d → i ≤ p.length → d < k → spec_PathOk.l1 k m (i : Int) v p = some ((p.drop i).all okP && (m == (p.length : Int))) := by
  induction d with
  | zero =>
    intro k i hd hi hk
    obtain ⟨k, rfl⟩ : ∃ m, k = m + 1 := ⟨k - 1, by omega⟩
    simp only [spec_PathOk.l1]
    rw [if_neg (by omega), List.drop_of_length_le (by omega)]
    simp
  | succ d ih =>
    intro k i hd hi hk
    obtain ⟨k, rfl⟩ : ∃ m, k = m + 1 := ⟨k - 1, by omega⟩
    simp only [spec_PathOk.l1]
    have hlt : i < p.length := by omega
    have c1 : (i : Int) < (p.length : Int) := by omega
    have c2 : (0 : Int) ≤ (i : Int) := by omega
    rw [if_pos c1, if_pos c2, spec_pointOk, rdP p i hlt, w64 (n := (i : Int) + 1) (by omega) (by omega), show (i : Int) + 1 = ((i + 1 : Nat) : Int) by omega, ih k (i + 1) (by omega) (by omega) (by omega), List.drop_eq_getElem_cons hlt]
    simp only [Option.bind_some, List.all_cons, okP]
    cases farB p[i].f0 <;> cases farB p[i].f1 <;> simp
theorem verbs_loop (v : List Int) (p : List S24) (hv : v.length ≤ 24) (hp : p.length ≤ 24) (d : Nat) : ∀ (k i : Nat) (m : Int), v.length - i = d → i ≤ v.length → 0 ≤ m → m ≤ 3 * (i : Int) → d + 30 < k →
    spec_PathOk.l0 k m (i : Int) v p = some (match scanV (v.drop i) (beginsAt v i) m with | none => false | some m => p.all okP && (m == (p.length : Int))) ∧
    impl_PathOk.l0 k m v (v.length : Int) (i : Int) v p = some (match scanV (v.drop i) (beginsAt v i) m with | none => false | some m => m == (p.length : Int)) := by
  induction d with
  | zero =>
    intro k i m hd hi h0 h1 hk
    obtain ⟨k, rfl⟩ : ∃ m, k = m + 1 := ⟨k - 1, by omega⟩
    simp only [spec_PathOk.l0, impl_PathOk.l0]
    rw [if_neg (by omega), if_neg (by omega), List.drop_of_length_le (by omega), show (0 : Int) = ((0 : Nat) : Int) from rfl, spec_points_loop v p m hp p.length k 0 (by omega) (by omega) (by omega)]
    simp [scanV]
  | succ d ih =>
    intro k i m hd hi h0 h1 hk
    obtain ⟨k, rfl⟩ : ∃ m, k = m + 2 := ⟨k - 2, by omega⟩
    rw [spec_PathOk.l0, impl_PathOk.l0]
    have hlt : i < v.length := by omega
    have c1 : (i : Int) < (v.length : Int) := by omega
    have c2 : (0 : Int) ≤ (i : Int) := by omega
    have hn := needI_in v[i]
    rw [if_pos c1, if_pos c2, if_pos c1, if_pos c2, if_pos c1, rdI v i hlt, spec_need, Option.bind_some, impl_need, Option.bind_some, List.drop_eq_getElem_cons hlt]
    simp only [scanV]
    have hw : wrap64 ((i : Int) + 1) = ((i + 1 : Nat) : Int) := by rw [w64 (by omega) (by omega)]; omega
    have hm : wrap64 (m + needI v[i]) = m + needI v[i] := w64 (by omega) (by omega)
    rw [hw, hm]
    have hb : beginsAt v (i + 1) = (v[i] == 5) := by
      unfold beginsAt
      rw [if_neg (by omega), Nat.add_sub_cancel, List.getElem?_eq_getElem hlt]
      rfl
    by_cases hneg : needI v[i] < 0
    · simp only [if_pos hneg]
      by_cases hi0 : (i : Int) = 0
      · rw [if_pos hi0]
        exact ⟨trivial, rfl⟩
      · have e1 : wrap64 ((i : Int) - 1) = ((i - 1 : Nat) : Int) := by rw [w64 (by omega) (by omega)]; omega
        rw [if_neg hi0, e1, if_pos (show (0 : Int) ≤ ((i - 1 : Nat) : Int) by omega), if_pos (show ((i - 1 : Nat) : Int) < (v.length : Int) by omega)]
        exact ⟨trivial, rfl⟩
    · have ⟨g1, g2⟩ := ih (k + 1) (i + 1) (m + needI v[i]) (by omega) (by omega) (by omega) (by omega) (by omega)
      rw [hb] at g1 g2
      simp only [if_neg hneg]
      by_cases hi0 : (i : Int) = 0
      · have hbi : beginsAt v i = true := by
          unfold beginsAt
          rw [if_pos (by omega)]
        rw [if_pos hi0, if_pos hi0, hbi]
        by_cases h1v : v[i] = 1
        · rw [if_pos h1v, if_pos h1v, if_neg (by simp [h1v])]
          exact ⟨g1, g2⟩
        · rw [if_neg h1v, if_neg h1v, if_pos (by simp [h1v])]
          exact ⟨rfl, rfl⟩
      · have e1 : wrap64 ((i : Int) - 1) = ((i - 1 : Nat) : Int) := by rw [w64 (by omega) (by omega)]; omega
        have c5 : (0 : Int) ≤ ((i - 1 : Nat) : Int) := by omega
        have c6 : ((i - 1 : Nat) : Int) < (v.length : Int) := by omega
        have hbi : beginsAt v i = (v[i - 1] == 5) := by
          unfold beginsAt
          rw [if_neg (by omega), List.getElem?_eq_getElem (by omega)]
          rfl
        rw [if_neg hi0, if_neg hi0, e1, if_pos c5, if_pos c6, if_pos c5, if_pos c6, rdI v (i - 1) (by omega), hbi]
        by_cases h5 : v[i - 1] = 5
        · rw [if_pos h5, if_pos h5]
          by_cases h1v : v[i] = 1
          · rw [if_pos h1v, if_pos h1v, if_neg (by simp [h1v])]
            exact ⟨g1, g2⟩
          · rw [if_neg h1v, if_neg h1v, if_pos (by simp [h1v, h5])]
            exact ⟨rfl, rfl⟩
        · rw [if_neg h5, if_neg h5, if_neg (by simp [h5])]
          exact ⟨g1, g2⟩
theorem spec_path (v : List Int) (p : List S24) (k : Nat) (hk : 60 < k) : spec_PathOk.f k v p = some (pathB v p) := by
  obtain ⟨k, rfl⟩ : ∃ m, k = m + 1 := ⟨k - 1, by omega⟩
  unfold spec_PathOk.f pathB
  by_cases h1 : (p.length : Int) > 24
  · rw [if_pos h1, if_pos (.inl (by omega))]
    simp [spec_PathOk.j0]
  · rw [if_neg h1]
    by_cases h2 : (v.length : Int) > 24
    · rw [decide_eq_true h2, if_pos (.inr (by omega))]
      simp [spec_PathOk.j0]
    · rw [decide_eq_false h2, if_neg (by omega)]
      have := (verbs_loop v p (by omega) (by omega) v.length k 0 0 (by omega) (by omega) (by omega) (by omega) (by omega)).1
      simp only [spec_PathOk.j0, Bool.false_eq_true, if_false]
      rw [show ((0 : Nat) : Int) = 0 from rfl] at this
      rw [this, List.drop_zero]
      have hb : beginsAt v 0 = true := rfl
      rw [hb]
      cases scanV v true 0 <;> simp
theorem impl_path (v : List Int) (p : List S24) (k : Nat) (hk : 60 < k) : impl_PathOk.f k v p = some (pathB v p) := by
  obtain ⟨k, rfl⟩ : ∃ m, k = m + 1 := ⟨k - 1, by omega⟩
  unfold impl_PathOk.f pathB
  by_cases h1 : (p.length : Int) > 24
  · rw [if_pos h1, if_pos (.inl (by omega))]
    simp [impl_PathOk.j0]
  · rw [if_neg h1]
    by_cases h2 : (v.length : Int) > 24
    · rw [if_pos h2, if_pos (.inr (by omega))]
      simp [impl_PathOk.j0]
    · rw [if_neg h2, if_neg (by omega), points_ok p (by omega) _ (by omega)]
      simp only [Option.bind_some, impl_PathOk.j0]
      cases hp : p.all okP
      · simp
      · have := (verbs_loop v p (by omega) (by omega) v.length k 0 0 (by omega) (by omega) (by omega) (by omega) (by omega)).2
        rw [show ((0 : Nat) : Int) = 0 from rfl] at this
        simp only [Bool.not_true, Bool.false_eq_true, if_false]
        rw [this, List.drop_zero]
        have hb : beginsAt v 0 = true := rfl
        rw [hb]
        cases scanV v true 0 <;> simp

theorem floor_some (a b : Int) : ∃ r, spec_FloorDiv.f a b = some r := by
  unfold spec_FloorDiv.f
  split
  · exact ⟨_, rfl⟩
  · rw [if_neg (by omega)]
    split <;> exact ⟨_, rfl⟩
theorem round_some (a b : Int) : ∃ r, spec_RoundDiv.f a b = some r ∧ impl_RoundDiv.f a b = some r := by
  have e : impl_RoundDiv.f a b = spec_RoundDiv.f a b := rfl
  rw [e]
  unfold spec_RoundDiv.f
  split
  · exact ⟨_, rfl, rfl⟩
  · obtain ⟨q, h⟩ := floor_some a b
    rw [h]
    simp only [Option.bind_some]
    split <;> exact ⟨_, rfl, rfl⟩
theorem wrap_zero (y : Int) : wrap64 (0 + wrap64 y) = wrap64 y := by
  unfold wrap64
  omega
theorem wrap_wrap (y : Int) : wrap64 (wrap64 y) = wrap64 y := by
  unfold wrap64
  omega

theorem mat_in (a b c : Int) : ∃ r, spec_l01In.f a b c = some r ∧ impl_inRange.f a b c = some r := by
  obtain ⟨r, h⟩ := impl_inRange.total a b c
  exact ⟨r, (show spec_l01In.f a b c = some r from h), h⟩
theorem mat_far (a : Int) : ∃ r, spec_l01In.f a (-8388608) 8388608 = some r ∧ impl_isFar.f a = some r := by
  obtain ⟨r, h, g⟩ := mat_in a (-8388608) 8388608
  exact ⟨r, h, by unfold impl_isFar.f; rw [g]; rfl⟩
theorem mat_same (a b c d e f : Int) : ∃ r, spec_MatOk.f a b c d e f = some r ∧ impl_MatOk.f a b c d e f = some r := by
  obtain ⟨r1, h1, g1⟩ := mat_in a (-1048576) 1048576
  obtain ⟨r2, h2, g2⟩ := mat_in b (-1048576) 1048576
  obtain ⟨r3, h3, g3⟩ := mat_in c (-1048576) 1048576
  obtain ⟨r4, h4, g4⟩ := mat_in d (-1048576) 1048576
  obtain ⟨r5, h5, g5⟩ := mat_far e
  obtain ⟨r6, h6, g6⟩ := mat_far f
  unfold spec_MatOk.f impl_MatOk.f
  simp only [Option.bind_some, h1, h2, h3, h4, h5, h6, g1, g2, g3, g4, g5, g6]
  cases r1 <;> cases r2 <;> cases r3 <;> cases r4 <;> cases r5 <;> cases r6 <;> exact ⟨_, rfl, rfl⟩
/-- A point moved, without a look at whether it is right. -/
def apP (a b c d e f : Int) (p : S24) : S24 := ((impl_apply.f a b c d e f p.f0 p.f1).map fun q => (⟨q.1, q.2⟩ : S24)).getD p
theorem apply_ok (a b c d e f : Int) (p : S24) : ∃ q : Int × Int, impl_apply.f a b c d e f p.f0 p.f1 = some q ∧ apP a b c d e f p = ⟨q.1, q.2⟩ ∧ (farB q.1 = true ∧ farB q.2 = true) ∧
    (spec_MatOk.f a b c d e f = some true → okP p = true → ∀ k, spec_Apply.f (k + 1) a b c d e f p.f0 p.f1 = some q) := by
  obtain ⟨u, h3, g3⟩ := round_some (wrap64 ((wrap64 (a * p.f0)) + (wrap64 (c * p.f1)))) 65536
  obtain ⟨v, h4, g4⟩ := round_some (wrap64 ((wrap64 (b * p.f0)) + (wrap64 (d * p.f1)))) 65536
  have g : impl_apply.f a b c d e f p.f0 p.f1 = some (clampI (wrap64 (u + e)) (-8388608) 8388608, clampI (wrap64 (v + f)) (-8388608) 8388608) := by
    unfold impl_apply.f impl_mixed.f
    rw [g3, g4]
    simp only [Option.bind_some]
    rw [impl_clamp, impl_clamp]
    rfl
  refine ⟨_, g, ?_, ⟨farB_true.2 (clampI_in (by omega)), farB_true.2 (clampI_in (by omega))⟩, ?_⟩
  · unfold apP
    rw [g]
    rfl
  · intro hm hp k
    unfold okP at hp
    unfold spec_Apply.f
    rw [hm, Option.bind_some, if_pos rfl, spec_pointOk, hp, Option.bind_some, spec_Apply.j0, if_neg (by decide), h3, h4]
    simp only [Option.bind_some]
    rw [spec_clamp, spec_clamp]
    rfl
theorem apP_ok (a b c d e f : Int) (p : S24) : okP (apP a b c d e f p) = true := by
  obtain ⟨q, _, h, ⟨h1, h2⟩, _⟩ := apply_ok a b c d e f p
  rw [h]
  unfold okP
  rw [h1, h2]
  rfl
theorem move_loop (a b c d e f : Int) (v : List Int) (l : List S24) (hl : l.length ≤ 24) (n : Nat) : ∀ (k i : Nat) (acc : List S24), l.length - i = n → i ≤ l.length → acc.length = l.length → (∀ j, j < i → acc[j]? = (l.map (apP a b c d e f))[j]?) → n < k →
    impl_MovePath.l0 k l (l.length : Int) (i : Int) a b c d e f v acc = some (v, l.map (apP a b c d e f)) := by
  induction n with
  | zero =>
    intro k i acc hd hi ha hj hk
    obtain ⟨k, rfl⟩ : ∃ m, k = m + 1 := ⟨k - 1, by omega⟩
    simp only [impl_MovePath.l0]
    rw [if_neg (by omega)]
    congr 2
    apply List.ext_getElem?
    intro j
    by_cases h : j < i
    · exact hj j h
    · rw [List.getElem?_eq_none (by omega), List.getElem?_eq_none (by simp; omega)]
  | succ n ih =>
    intro k i acc hd hi ha hj hk
    obtain ⟨k, rfl⟩ : ∃ m, k = m + 1 := ⟨k - 1, by omega⟩
    simp only [impl_MovePath.l0]
    have hlt : i < l.length := by omega
    have c1 : (i : Int) < (l.length : Int) := by omega
    have c2 : (0 : Int) ≤ (i : Int) := by omega
    have c3 : (i : Int) < (acc.length : Int) := by omega
    obtain ⟨q, h, h', _, _⟩ := apply_ok a b c d e f l[i]
    rw [if_pos c1, if_pos c2, if_pos c1, rdP l i hlt, h, Option.bind_some, if_pos c3, w64 (n := (i : Int) + 1) (by omega) (by omega), show (i : Int) + 1 = ((i + 1 : Nat) : Int) by omega, show ((i : Int)).toNat = i by omega]
    refine ih k (i + 1) _ (by omega) (by omega) (by simp [ha]) (fun j hj1 => ?_) (by omega)
    rw [List.getElem?_set]
    by_cases h : i = j
    · subst h
      rw [if_pos rfl, if_pos (by omega), List.getElem?_map, List.getElem?_eq_getElem hlt]
      exact congrArg some h'.symm
    · rw [if_neg h]
      exact hj j (by omega)
/-- What the program's MovePath answers. -/
theorem impl_move (a b c d e f : Int) (v : List Int) (l : List S24) (m : Bool) (hm : impl_MatOk.f a b c d e f = some m) (k : Nat) (hk : 61 < k) :
    impl_MovePath.f k a b c d e f v l = some (if pathB v l && m then (v, l.map (apP a b c d e f)) else ([], [])) := by
  obtain ⟨k, rfl⟩ : ∃ m, k = m + 1 := ⟨k - 1, by omega⟩
  unfold impl_MovePath.f
  rw [impl_path v l _ (by omega), Option.bind_some]
  cases hp : pathB v l
  · simp [impl_MovePath.j0]
  · have hv : ¬ (l.length > 24 ∨ v.length > 24) := by
      intro h
      unfold pathB at hp
      rw [if_pos h] at hp
      cases hp
    rw [if_pos rfl, hm, Option.bind_some]
    cases m
    · simp [impl_MovePath.j0]
    · simp only [Bool.not_true, impl_MovePath.j0, Bool.false_eq_true, if_false, Bool.and_self, if_true]
      have hc : impl_copyPath.f v l = some (v, l) := by
        unfold impl_copyPath.f slices_Clone_int_int.f impl_Point.f
        rw [if_pos (by omega), Option.bind_some, if_pos (by omega), Option.bind_some]
      rw [hc, Option.bind_some]
      exact move_loop a b c d e f v l (by omega) l.length k 0 l (by omega) (by omega) rfl (fun j hj => absurd hj (by omega)) (by omega)

theorem eqInts_loop (l : List Int) (hl : l.length ≤ 9223372036854775806) (d : Nat) : ∀ (k i : Nat), l.length - i = d → i ≤ l.length → d < k → laws_eqIntS.l0 k l l (i : Int) = some true := by
  induction d with
  | zero =>
    intro k i hd hi hk
    obtain ⟨k, rfl⟩ : ∃ m, k = m + 1 := ⟨k - 1, by omega⟩
    simp only [laws_eqIntS.l0]
    rw [if_neg (by omega)]
  | succ d ih =>
    intro k i hd hi hk
    obtain ⟨k, rfl⟩ : ∃ m, k = m + 1 := ⟨k - 1, by omega⟩
    simp only [laws_eqIntS.l0]
    have c1 : (i : Int) < (l.length : Int) := by omega
    have c2 : (0 : Int) ≤ (i : Int) := by omega
    rw [if_pos c1, if_pos c2, if_pos c1, if_pos trivial, w64 (n := (i : Int) + 1) (by omega) (by omega), show (i : Int) + 1 = ((i + 1 : Nat) : Int) by omega]
    exact ih k (i + 1) (by omega) (by omega) (by omega)
theorem eqInts_self (l : List Int) (hl : l.length ≤ 9223372036854775806) (k : Nat) (hk : l.length < k) : laws_eqIntS.f k l l = some true := by
  unfold laws_eqIntS.f
  rw [if_pos rfl]
  exact eqInts_loop l hl l.length k 0 (by omega) (by omega) hk

theorem eqPoints_loop (l : List S24) (hl : l.length ≤ 9223372036854775806) (d : Nat) : ∀ (k i : Nat), l.length - i = d → i ≤ l.length → d < k → laws_eqPointS.l0 k l l (i : Int) = some true := by
  induction d with
  | zero =>
    intro k i hd hi hk
    obtain ⟨k, rfl⟩ : ∃ m, k = m + 1 := ⟨k - 1, by omega⟩
    simp only [laws_eqPointS.l0]
    rw [if_neg (by omega)]
  | succ d ih =>
    intro k i hd hi hk
    obtain ⟨k, rfl⟩ : ∃ m, k = m + 1 := ⟨k - 1, by omega⟩
    simp only [laws_eqPointS.l0]
    have c1 : (i : Int) < (l.length : Int) := by omega
    have c2 : (0 : Int) ≤ (i : Int) := by omega
    have e : ∀ a b : Int, laws_eqPoint.f a b a b = some true := fun a b => by unfold laws_eqPoint.f; simp
    rw [if_pos c1, if_pos c2, if_pos c1, e, Option.bind_some, if_pos rfl, w64 (n := (i : Int) + 1) (by omega) (by omega), show (i : Int) + 1 = ((i + 1 : Nat) : Int) by omega]
    exact ih k (i + 1) (by omega) (by omega) (by omega)
theorem eqPoints_self (l : List S24) (hl : l.length ≤ 9223372036854775806) (k : Nat) (hk : l.length < k) : laws_eqPointS.f k l l = some true := by
  unfold laws_eqPointS.f
  rw [if_pos rfl]
  exact eqPoints_loop l hl l.length k 0 (by omega) (by omega) hk

theorem eqPath_self (v : List Int) (p : List S24) (hv : v.length ≤ 9223372036854775806) (hp : p.length ≤ 9223372036854775806) (k : Nat) (h1 : v.length < k) (h2 : p.length < k) : laws_eqPath.f k v p v p = some true := by
  unfold laws_eqPath.f
  rw [eqInts_self v hv k h1, eqPoints_self p hp k h2]
  rfl

def cv (p : S23) : S24 := ⟨p.f0, p.f1⟩
theorem rdL (l : List S23) (i : Nat) (h : i < l.length) : rd_T23 l (i : Int) = l[i] := by
  unfold rd_T23
  rw [show ((i : Int)).toNat = i by omega, List.getD_eq_getElem?_getD, List.getElem?_eq_getElem h]
  rfl
theorem toPoints_loop (l : List S23) (hl : l.length ≤ 1048576) (d : Nat) : ∀ (k i : Nat) (acc : List S24), l.length - i = d → i ≤ l.length → acc.length = l.length → (∀ j, j < i → acc[j]? = (l.map cv)[j]?) → d < k →
    laws_toPointS.l0 k l acc (i : Int) = some (l.map cv) := by
  induction d with
  | zero =>
    intro k i acc hd hi ha hj hk
    obtain ⟨k, rfl⟩ : ∃ m, k = m + 1 := ⟨k - 1, by omega⟩
    simp only [laws_toPointS.l0]
    rw [if_neg (by omega)]
    congr 1
    apply List.ext_getElem?
    intro j
    by_cases h : j < i
    · exact hj j h
    · rw [List.getElem?_eq_none (by omega), List.getElem?_eq_none (by simp; omega)]
  | succ d ih =>
    intro k i acc hd hi ha hj hk
    obtain ⟨k, rfl⟩ : ∃ m, k = m + 1 := ⟨k - 1, by omega⟩
    simp only [laws_toPointS.l0]
    have hlt : i < l.length := by omega
    have c1 : (i : Int) < (l.length : Int) := by omega
    have c2 : (0 : Int) ≤ (i : Int) := by omega
    have c3 : (i : Int) < (acc.length : Int) := by omega
    unfold laws_toPoint.f
    rw [if_pos c1, if_pos c2, Option.bind_some, if_pos c3, rdL l i hlt, w64 (n := (i : Int) + 1) (by omega) (by omega), show (i : Int) + 1 = ((i + 1 : Nat) : Int) by omega, show ((i : Int)).toNat = i by omega]
    refine ih k (i + 1) _ (by omega) (by omega) (by simp [ha]) (fun j hj1 => ?_) (by omega)
    rw [List.getElem?_set]
    by_cases h : i = j
    · subst h
      rw [if_pos rfl, if_pos (by omega), List.getElem?_map, List.getElem?_eq_getElem hlt]
      rfl
    · rw [if_neg h]
      exact hj j (by omega)
theorem toPoints (l : List S23) (hl : l.length ≤ 1048576) (k : Nat) (hk : l.length < k) : laws_toPointS.f k l = some (l.map cv) := by
  unfold laws_toPointS.f
  rw [if_pos (by omega), if_pos (by omega), Int.toNat_natCast]
  exact toPoints_loop l hl l.length k 0 _ (by omega) (by omega) (by simp) (fun j hj => absurd hj (by omega)) hk

theorem toInts_loop (l : List Int) (hl : l.length ≤ 1048576) (d : Nat) : ∀ (k i : Nat) (acc : List Int), l.length - i = d → i ≤ l.length → acc.length = l.length → (∀ j, j < i → acc[j]? = l[j]?) → d < k →
    laws_toIntS.l0 k l acc (i : Int) = some l := by
  induction d with
  | zero =>
    intro k i acc hd hi ha hj hk
    obtain ⟨k, rfl⟩ : ∃ m, k = m + 1 := ⟨k - 1, by omega⟩
    simp only [laws_toIntS.l0]
    rw [if_neg (by omega)]
    congr 1
    apply List.ext_getElem?
    intro j
    by_cases h : j < i
    · exact hj j h
    · rw [List.getElem?_eq_none (by omega), List.getElem?_eq_none (by omega)]
  | succ d ih =>
    intro k i acc hd hi ha hj hk
    obtain ⟨k, rfl⟩ : ∃ m, k = m + 1 := ⟨k - 1, by omega⟩
    simp only [laws_toIntS.l0]
    have hlt : i < l.length := by omega
    have c1 : (i : Int) < (l.length : Int) := by omega
    have c2 : (0 : Int) ≤ (i : Int) := by omega
    have c3 : (i : Int) < (acc.length : Int) := by omega
    rw [if_pos c1, if_pos c2, if_pos c3, rdI l i hlt, w64 (n := (i : Int) + 1) (by omega) (by omega), show (i : Int) + 1 = ((i + 1 : Nat) : Int) by omega, show ((i : Int)).toNat = i by omega]
    refine ih k (i + 1) _ (by omega) (by omega) (by simp [ha]) (fun j hj1 => ?_) (by omega)
    rw [List.getElem?_set]
    by_cases h : i = j
    · subst h
      rw [if_pos rfl, if_pos (by omega), List.getElem?_eq_getElem hlt]
    · rw [if_neg h]
      exact hj j (by omega)
theorem toInts (l : List Int) (hl : l.length ≤ 1048576) (k : Nat) (hk : l.length < k) : laws_toIntS.f k l = some l := by
  unfold laws_toIntS.f
  rw [if_pos (by omega), if_pos (by omega), Int.toNat_natCast]
  exact toInts_loop l hl l.length k 0 _ (by omega) (by omega) (by simp) (fun j hj => absurd hj (by omega)) hk
theorem toPath (v : List Int) (p : List S23) (hv : v.length ≤ 1048576) (hp : p.length ≤ 1048576) (k : Nat) (h1 : v.length < k) (h2 : p.length < k) : laws_toPath.f k v p = some (v, p.map cv) := by
  unfold laws_toPath.f
  rw [toInts v hv k h1, Option.bind_some, toPoints p hp k h2]
  rfl
theorem szPath (v : List Int) (p : List S23) (hv : v.length ≤ 9223372036854775807) (hp : p.length ≤ 9223372036854775807) :
    ∃ r : Int, laws_szPath.f v p 1048576 = some r ∧ (0 ≤ r → v.length ≤ 1048576 ∧ p.length ≤ 1048576) := by
  unfold laws_szPath.f laws_szIntS.f laws_szPointS.f
  rw [w64 (n := 1048576 - (v.length : Int)) (by omega) (by omega)]
  by_cases h : 1048576 - (v.length : Int) < 0
  · rw [if_pos h]
    exact ⟨-1, rfl, fun h => absurd h (by decide)⟩
  · rw [if_neg h, Option.bind_some, if_neg h, w64 (n := 1048576 - (v.length : Int) - (p.length : Int)) (by omega) (by omega)]
    by_cases g : 1048576 - (v.length : Int) - (p.length : Int) < 0
    · rw [if_pos g]
      exact ⟨-1, rfl, fun h => absurd h (by decide)⟩
    · rw [if_neg g, Option.bind_some, if_neg g]
      exact ⟨_, rfl, fun _ => by omega⟩

theorem markInts_loop (s : Int) (h0 : 0 ≤ s) (h1 : s ≤ 1048577) (n : Nat) : ∀ (k i : Nat) (acc : List Int), acc.length ≤ 1048576 → acc.length - i = n → i ≤ acc.length → (∀ j : Nat, j < i → acc[j]? = some (s + (j : Int))) → n < k →
    ∃ r : List Int, laws_markIntS.l0 k acc (s + (i : Int)) (i : Int) = some (s + (acc.length : Int), r) ∧ r.length = acc.length ∧ ∀ j : Nat, j < r.length → r[j]? = some (s + (j : Int)) := by
  induction n with
  | zero =>
    intro k i acc hl hd hi hj hk
    obtain ⟨k, rfl⟩ : ∃ m, k = m + 1 := ⟨k - 1, by omega⟩
    have e : i = acc.length := by omega
    subst e
    simp only [laws_markIntS.l0]
    rw [if_neg (by omega)]
    exact ⟨acc, rfl, rfl, hj⟩
  | succ n ih =>
    intro k i acc hl hd hi hj hk
    obtain ⟨k, rfl⟩ : ∃ m, k = m + 1 := ⟨k - 1, by omega⟩
    simp only [laws_markIntS.l0]
    rw [if_pos (show (i : Int) < (acc.length : Int) by omega), if_pos (show (0 : Int) ≤ (i : Int) by omega), w64 (n := s + (i : Int) + 1) (by omega) (by omega), w64 (n := (i : Int) + 1) (by omega) (by omega),
      show s + (i : Int) + 1 = s + ((i + 1 : Nat) : Int) by omega, show (i : Int) + 1 = ((i + 1 : Nat) : Int) by omega, show ((i : Int)).toNat = i by omega]
    obtain ⟨r, e, g, q⟩ := ih k (i + 1) (acc.set i (s + (i : Int))) (by simpa using hl) (by simp; omega) (by simp; omega) (fun j hj1 => by
      rw [List.getElem?_set]
      by_cases h : i = j
      · subst h
        rw [if_pos rfl, if_pos (by omega)]
      · rw [if_neg h]
        exact hj j (by omega)) (by omega)
    rw [List.length_set] at e g
    exact ⟨r, e, g, q⟩
theorem heldInts_loop (s : Int) (h0 : 0 ≤ s) (h1 : s ≤ 1048577) (r : List Int) (hl : r.length ≤ 1048576) (hr : ∀ j : Nat, j < r.length → r[j]? = some (s + (j : Int))) (n : Nat) : ∀ (k i : Nat), r.length - i = n → i ≤ r.length → n < k →
    laws_heldIntS.l0 k r (s + (i : Int)) (i : Int) = some (s + (r.length : Int)) := by
  induction n with
  | zero =>
    intro k i hd hi hk
    obtain ⟨k, rfl⟩ : ∃ m, k = m + 1 := ⟨k - 1, by omega⟩
    have e : i = r.length := by omega
    subst e
    simp only [laws_heldIntS.l0]
    rw [if_neg (by omega)]
  | succ n ih =>
    intro k i hd hi hk
    obtain ⟨k, rfl⟩ : ∃ m, k = m + 1 := ⟨k - 1, by omega⟩
    have hlt : i < r.length := by omega
    have hv := hr i hlt
    rw [List.getElem?_eq_getElem hlt] at hv
    simp only [laws_heldIntS.l0]
    rw [if_pos (show (i : Int) < (r.length : Int) by omega), if_pos (show (0 : Int) ≤ (i : Int) by omega), rdI r i hlt, if_pos (Option.some.inj hv), w64 (n := s + (i : Int) + 1) (by omega) (by omega), w64 (n := (i : Int) + 1) (by omega) (by omega),
      show s + (i : Int) + 1 = s + ((i + 1 : Nat) : Int) by omega, show (i : Int) + 1 = ((i + 1 : Nat) : Int) by omega]
    exact ih k (i + 1) (by omega) (by omega) (by omega)
theorem markPoints_loop (s : Int) (h0 : 0 ≤ s) (h1 : s ≤ 2097153) (n : Nat) : ∀ (k i : Nat) (acc : List S24), acc.length ≤ 1048576 → acc.length - i = n → i ≤ acc.length → (∀ j : Nat, j < i → acc[j]? = some ⟨s + 2 * (j : Int), s + 2 * (j : Int) + 1⟩) → n < k →
    ∃ r : List S24, laws_markPointS.l0 k acc (s + 2 * (i : Int)) (i : Int) = some (s + 2 * (acc.length : Int), r) ∧ r.length = acc.length ∧ ∀ j : Nat, j < r.length → r[j]? = some ⟨s + 2 * (j : Int), s + 2 * (j : Int) + 1⟩ := by
  induction n with
  | zero =>
    intro k i acc hl hd hi hj hk
    obtain ⟨k, rfl⟩ : ∃ m, k = m + 1 := ⟨k - 1, by omega⟩
    have e : i = acc.length := by omega
    subst e
    simp only [laws_markPointS.l0]
    rw [if_neg (by omega)]
    exact ⟨acc, rfl, rfl, hj⟩
  | succ n ih =>
    intro k i acc hl hd hi hj hk
    obtain ⟨k, rfl⟩ : ∃ m, k = m + 1 := ⟨k - 1, by omega⟩
    have hlt : i < acc.length := by omega
    simp only [laws_markPointS.l0, Option.bind_some]
    rw [if_pos (show (i : Int) < (acc.length : Int) by omega), if_pos (show (0 : Int) ≤ (i : Int) by omega), show ((i : Int)).toNat = i by omega, rdP acc i hlt, rdP (acc.set i _) i (by simpa using hlt), w64 (n := s + 2 * (i : Int) + 1) (by omega) (by omega), w64 (n := s + 2 * (i : Int) + 1 + 1) (by omega) (by omega), w64 (n := (i : Int) + 1) (by omega) (by omega),
      show s + 2 * (i : Int) + 1 + 1 = s + 2 * ((i + 1 : Nat) : Int) by omega, show (i : Int) + 1 = ((i + 1 : Nat) : Int) by omega, List.getElem_set_self, List.set_set]
    obtain ⟨r, e, g, q⟩ := ih k (i + 1) (acc.set i ⟨s + 2 * (i : Int), s + 2 * (i : Int) + 1⟩) (by simpa using hl) (by simp; omega) (by simp; omega) (fun j hj1 => by
      rw [List.getElem?_set]
      by_cases h : i = j
      · subst h
        rw [if_pos rfl, if_pos (by omega)]
      · rw [if_neg h]
        exact hj j (by omega)) (by omega)
    rw [List.length_set] at e g
    exact ⟨r, e, g, q⟩
theorem heldPoints_loop (s : Int) (h0 : 0 ≤ s) (h1 : s ≤ 2097153) (r : List S24) (hl : r.length ≤ 1048576) (hr : ∀ j : Nat, j < r.length → r[j]? = some ⟨s + 2 * (j : Int), s + 2 * (j : Int) + 1⟩) (n : Nat) : ∀ (k i : Nat), r.length - i = n → i ≤ r.length → n < k →
    laws_heldPointS.l0 k r (s + 2 * (i : Int)) (i : Int) = some (s + 2 * (r.length : Int)) := by
  induction n with
  | zero =>
    intro k i hd hi hk
    obtain ⟨k, rfl⟩ : ∃ m, k = m + 1 := ⟨k - 1, by omega⟩
    have e : i = r.length := by omega
    subst e
    simp only [laws_heldPointS.l0]
    rw [if_neg (by omega)]
  | succ n ih =>
    intro k i hd hi hk
    obtain ⟨k, rfl⟩ : ∃ m, k = m + 1 := ⟨k - 1, by omega⟩
    have hlt : i < r.length := by omega
    have hv := hr i hlt
    rw [List.getElem?_eq_getElem hlt] at hv
    have hv := Option.some.inj hv
    simp only [laws_heldPointS.l0]
    rw [if_pos (show (i : Int) < (r.length : Int) by omega), if_pos (show (0 : Int) ≤ (i : Int) by omega), rdP r i hlt, hv, if_pos rfl, w64 (n := s + 2 * (i : Int) + 1) (by omega) (by omega), if_pos rfl, w64 (n := s + 2 * (i : Int) + 1 + 1) (by omega) (by omega), w64 (n := (i : Int) + 1) (by omega) (by omega),
      show s + 2 * (i : Int) + 1 + 1 = s + 2 * ((i + 1 : Nat) : Int) by omega, show (i : Int) + 1 = ((i + 1 : Nat) : Int) by omega]
    exact ih k (i + 1) (by omega) (by omega) (by omega)
/-- A path marked holds its marks. -/
theorem mark_path (v : List Int) (p : List S24) (hv : v.length ≤ 1048576) (hp : p.length ≤ 1048576) (k : Nat) (k1 : v.length < k) (k2 : p.length < k) :
    ∃ (n : Int) (v' : List Int) (p' : List S24), laws_markPath.f k v p 1 = some (n, v', p') ∧ 0 ≤ n ∧ laws_heldPath.f k v' p' 1 = some n := by
  obtain ⟨v', e, g, q⟩ := markInts_loop 1 (by omega) (by omega) v.length k 0 v hv (by omega) (by omega) (fun j hj => absurd hj (by omega)) k1
  obtain ⟨p', e', g', q'⟩ := markPoints_loop (1 + (v.length : Int)) (by omega) (by omega) p.length k 0 p hp (by omega) (by omega) (fun j hj => absurd hj (by omega)) k2
  have f := heldInts_loop 1 (by omega) (by omega) v' (by omega) q v'.length k 0 (by omega) (by omega) (by omega)
  have f' := heldPoints_loop (1 + (v.length : Int)) (by omega) (by omega) p' (by omega) q' p'.length k 0 (by omega) (by omega) (by omega)
  have z1 : (1 : Int) + ((0 : Nat) : Int) = 1 := rfl
  have z2 : (1 : Int) + (v.length : Int) + 2 * ((0 : Nat) : Int) = 1 + (v.length : Int) := by omega
  have z3 : ((0 : Nat) : Int) = 0 := rfl
  rw [z1, z3] at e f
  rw [z2, z3] at e' f'
  refine ⟨1 + (v.length : Int) + 2 * (p.length : Int), v', p', ?_, by omega, ?_⟩
  · unfold laws_markPath.f laws_markIntS.f laws_markPointS.f
    rw [e, Option.bind_some]
    simp only
    rw [e', Option.bind_some]
  · unfold laws_heldPath.f laws_heldIntS.f laws_heldPointS.f
    rw [f, g, Option.bind_some, if_neg (by omega), f', g', Option.bind_some, if_neg (by omega)]

theorem pathB_true {v : List Int} {p : List S24} (h : pathB v p = true) : p.length ≤ 24 ∧ v.length ≤ 24 ∧ p.all okP = true := by
  unfold pathB at h
  by_cases hb : p.length > 24 ∨ v.length > 24
  · rw [if_pos hb] at h
    cases h
  · rw [if_neg hb, Bool.and_eq_true] at h
    exact ⟨by omega, by omega, h.1⟩
theorem spec_move_loop (a b c d e f : Int) (hm : spec_MatOk.f a b c d e f = some true) (v : List Int) (l : List S24) (hl : l.length ≤ 24) (ho : l.all okP = true) (n : Nat) : ∀ (k i : Nat), l.length - i = n → i ≤ l.length → n + 1 < k →
    spec_MovePath.l0 k (i : Int) a b c d e f v l v ((l.take i).map (apP a b c d e f)) = some (v, l.map (apP a b c d e f)) := by
  induction n with
  | zero =>
    intro k i hd hi hk
    obtain ⟨k, rfl⟩ : ∃ m, k = m + 1 := ⟨k - 1, by omega⟩
    simp only [spec_MovePath.l0]
    rw [if_neg (by omega), List.take_of_length_le (by omega)]
  | succ n ih =>
    intro k i hd hi hk
    obtain ⟨k, rfl⟩ : ∃ m, k = m + 2 := ⟨k - 2, by omega⟩
    have hlt : i < l.length := by omega
    obtain ⟨q, _, h', _, h⟩ := apply_ok a b c d e f l[i]
    rw [spec_MovePath.l0, if_pos (show (i : Int) < (l.length : Int) by omega), if_pos (show (0 : Int) ≤ (i : Int) by omega), rdP l i hlt, h hm (List.all_eq_true.1 ho _ (List.getElem_mem hlt)) k, Option.bind_some,
      if_pos (by simp; omega), w64 (n := (i : Int) + 1) (by omega) (by omega), show (i : Int) + 1 = ((i + 1 : Nat) : Int) by omega, ← h']
    have e : (l.take i).map (apP a b c d e f) ++ [apP a b c d e f l[i]] = (l.take (i + 1)).map (apP a b c d e f) := by
      rw [← List.take_append_getElem hlt, List.map_append]
      rfl
    rw [e]
    exact ih (k + 1) (i + 1) (by omega) (by omega) (by omega)
theorem spec_move (a b c d e f : Int) (v : List Int) (l : List S24) (m : Bool) (hm : spec_MatOk.f a b c d e f = some m) (k : Nat) (hk : 61 < k) :
    spec_MovePath.f k a b c d e f v l = some (if pathB v l && m then (v, l.map (apP a b c d e f)) else ([], [])) := by
  obtain ⟨k, rfl⟩ : ∃ m, k = m + 1 := ⟨k - 1, by omega⟩
  unfold spec_MovePath.f
  rw [spec_path v l _ (by omega), Option.bind_some]
  cases hp : pathB v l
  · simp [spec_MovePath.j0]
  · obtain ⟨h1, h2, h3⟩ := pathB_true hp
    rw [if_pos rfl, hm, Option.bind_some]
    cases m
    · simp [spec_MovePath.j0]
    · simp only [Bool.not_true, spec_MovePath.j0, Bool.false_eq_true, if_false, Bool.and_self, if_true, Option.bind_some]
      rw [if_pos (by simp; omega)]
      exact spec_move_loop a b c d e f hm v l h1 h3 l.length k 0 (by omega) (by omega) (by omega)
theorem FnExactMovePath (a b c d e f : Int) (v : List Int) (p : List S23) (_ : (Lit.int .i64 a).wf = true) (_ : (Lit.int .i64 b).wf = true) (_ : (Lit.int .i64 c).wf = true) (_ : (Lit.int .i64 d).wf = true) (_ : (Lit.int .i64 e).wf = true) (_ : (Lit.int .i64 f).wf = true) (hv : v.length ≤ 9223372036854775807) (hp : p.length ≤ 9223372036854775807) : ∃ k, laws_FnExactMovePath.f k a b c d e f v p = some true := by
  obtain ⟨r, hr, hr1⟩ := szPath v p hv hp
  refine ⟨v.length + p.length + 100 + 1, ?_⟩
  unfold laws_FnExactMovePath.f
  rw [hr, Option.bind_some]
  by_cases h : r < 0
  · rw [if_pos h]
  · rw [if_neg h]
    obtain ⟨hv1, hp1⟩ := hr1 (by omega)
    obtain ⟨m, hm, hm'⟩ := mat_same a b c d e f
    have e1 : ∀ k, v.length + p.length < k → laws_toPath.f k v p = some (v, p.map cv) := fun k hk => toPath v p hv1 hp1 k (by omega) (by omega)
    have lq : (p.map cv).length = p.length := by simp
    generalize p.map cv = q at e1 lq
    have e2 := spec_move a b c d e f v q m hm
    have e3 := impl_move a b c d e f v q m hm'
    have hw : ∀ w : List Int × List S24, (if pathB v q && m then (v, q.map (apP a b c d e f)) else ([], [])) = w → w.1.length ≤ 24 ∧ w.2.length ≤ 24 := by
      rintro w rfl
      cases hb : pathB v q && m
      · simp
      · have hb : pathB v q = true := by revert hb; cases pathB v q <;> simp
        obtain ⟨h1, h2, _⟩ := pathB_true hb
        simp [h1, h2]
    generalize (if pathB v q && m then (v, q.map (apP a b c d e f)) else ([], [])) = w at e2 e3 hw
    obtain ⟨w1, w2⟩ := w
    obtain ⟨l1, l2⟩ := hw _ rfl
    simp only at l1 l2
    have e4 : ∀ k, 61 < k → laws_eqPath.f k w1 w2 w1 w2 = some true := fun k hk => eqPath_self w1 w2 (by omega) (by omega) k (by omega) (by omega)
    have e5 : ∀ k, v.length + p.length < k → laws_eqPath.f k v q v q = some true := fun k hk => eqPath_self v q (by omega) (by omega) k (by omega) (by omega)
    obtain ⟨n, v', q', e6, n0, _⟩ := mark_path v q hv1 (by omega) (v.length + p.length + 100 + 1) (by omega) (by omega)
    obtain ⟨n', w1', w2', e7, n1, e8⟩ := mark_path w1 w2 (by omega) (by omega) (v.length + p.length + 100) (by omega) (by omega)
    have t : laws_toMat.f a b c d e f = some (a, b, c, d, e, f) := rfl
    simp only [t, e1 (v.length + p.length + 100 + 1) (by omega), e2 (v.length + p.length + 100 + 1) (by omega), e3 (v.length + p.length + 100 + 1) (by omega), e4 (v.length + p.length + 100 + 1) (by omega), e5 (v.length + p.length + 100 + 1) (by omega), e6, Option.bind_some, if_true]
    rw [if_neg (by omega), laws_FnExactMovePath.j0]
    simp only [t, e1 (v.length + p.length + 100) (by omega), e3 (v.length + p.length + 100) (by omega), e4 (v.length + p.length + 100) (by omega), e7, e8, Option.bind_some, if_true, Bool.not_true, Bool.false_eq_true, if_false]
    rw [if_neg (by omega), if_neg (by omega)]
end Go.Proofs.Ytdlocaecdlgnjaa.Pure
