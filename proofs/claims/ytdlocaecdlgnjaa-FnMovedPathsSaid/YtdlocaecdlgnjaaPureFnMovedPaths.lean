/- FnMovedPaths: a drawn path that is moved has its verbs and each point moved; the path around a drawn box has its box; for every code. -/
import Derived.Test.YtdlocaecdlgnjaaQFnMovedPathsx0
import Derived.Test.YtdlocaecdlgnjaaQFnMovedPathsx1
import Derived.Test.YtdlocaecdlgnjaaQFnMovedPathsx10
import Derived.Test.YtdlocaecdlgnjaaQFnMovedPathsx2
import Derived.Test.YtdlocaecdlgnjaaQFnMovedPathsx3
import Derived.Test.YtdlocaecdlgnjaaQFnMovedPathsx4
import Derived.Test.YtdlocaecdlgnjaaQFnMovedPathsx5
import Derived.Test.YtdlocaecdlgnjaaQFnMovedPathsx6
import Derived.Test.YtdlocaecdlgnjaaQFnMovedPathsx7
import Derived.Test.YtdlocaecdlgnjaaQFnMovedPathsx8
import Derived.Test.YtdlocaecdlgnjaaQFnMovedPathsx9
import Derived.Test.YtdlocaecdlgnjaaPlain
namespace Go.Proofs.Ytdlocaecdlgnjaa.Pure
open Go.RowKit Go.Proofs.Ytdlocaecdlgnjaa.PFnMovedPaths Go.Proofs.Ytdlocaecdlgnjaa.Plain Go.Proofs.YtdlocaecdlgnjaaW.PrintWords Go.Proofs.YtdlocaecdlgnjaaW.PrintLast

theorem spec_clamp (x lo hi : Int) : spec_Clamp.f x lo hi = some (clampI x lo hi) := by
  unfold spec_Clamp.f
  exact clampI_text x lo hi

theorem impl_clamp (x lo hi : Int) : impl_Clamp.f x lo hi = some (clampI x lo hi) := by
  unfold impl_Clamp.f
  exact clampI_text x lo hi

def farB (x : Int) : Bool := decide (-8388608 ≤ x) && decide (x ≤ 8388608)
theorem farB_true {x : Int} : farB x = true ↔ -8388608 ≤ x ∧ x ≤ 8388608 := by simp [farB]

theorem spec_far (x : Int) : spec_l01In.f x (-8388608) 8388608 = some (farB x) := by
  unfold spec_l01In.f farB
  by_cases h : -8388608 ≤ x
  · rw [if_pos h]
    simp [h]
  · rw [if_neg h]
    simp [h]
theorem spec_pointOk (x y : Int) : spec_PointOk.f x y = some (farB x && farB y) := by
  unfold spec_PointOk.f
  rw [spec_far, spec_far]
  cases farB x <;> rfl

theorem impl_far (x : Int) : impl_isFar.f x = some (farB x) := by
  unfold impl_isFar.f impl_inRange.f farB
  by_cases h : -8388608 ≤ x
  · rw [if_pos h]
    simp [h]
  · rw [if_neg h]
    simp [h]
theorem impl_pointOk (x y : Int) : impl_PointOk.f x y = some (farB x && farB y) := by
  unfold impl_PointOk.f
  rw [impl_far, impl_far]
  cases farB x <;> rfl

theorem rdP (l : List S24) (i : Nat) (h : i < l.length) : rd_T24 l (i : Int) = l[i] := by
  unfold rd_T24
  rw [show ((i : Int)).toNat = i by omega, List.getD_eq_getElem?_getD, List.getElem?_eq_getElem h]
  rfl

theorem rdI (l : List Int) (i : Nat) (h : i < l.length) : rd l (i : Int) = l[i] := by
  unfold rd
  rw [show ((i : Int)).toNat = i by omega, List.getD_eq_getElem?_getD, List.getElem?_eq_getElem h]
  rfl

def okP (p : S24) : Bool := farB p.f0 && farB p.f1
theorem points_loop (l : List S24) (hl : l.length ≤ 9223372036854775806) (d : Nat) : ∀ (k i : Nat), l.length - i = d → i ≤ l.length → d < k → impl_pointsOk.l0 k l (l.length : Int) (i : Int) = some ((l.drop i).all okP) := by
  induction d with
  | zero =>
    intro k i hd hi hk
    obtain ⟨k, rfl⟩ : ∃ m, k = m + 1 := ⟨k - 1, by omega⟩
    simp only [impl_pointsOk.l0]
    rw [if_neg (by omega), List.drop_of_length_le (by omega)]
    rfl
  | succ d ih =>
    intro k i hd hi hk
    obtain ⟨k, rfl⟩ : ∃ m, k = m + 1 := ⟨k - 1, by omega⟩
    simp only [impl_pointsOk.l0]
    have hlt : i < l.length := by omega
    have c1 : (i : Int) < (l.length : Int) := by omega
    have c2 : (0 : Int) ≤ (i : Int) := by omega
    rw [if_pos c1, if_pos c2, if_pos c1, impl_pointOk, rdP l i hlt, w64 (n := (i : Int) + 1) (by omega) (by omega), show (i : Int) + 1 = ((i + 1 : Nat) : Int) by omega, ih k (i + 1) (by omega) (by omega) (by omega), List.drop_eq_getElem_cons hlt]
    simp only [Option.bind_some, List.all_cons, okP]
    cases farB l[i].f0 <;> cases farB l[i].f1 <;> simp
theorem points_ok (l : List S24) (hl : l.length ≤ 9223372036854775806) (k : Nat) (hk : l.length < k) : impl_pointsOk.f k l = some (l.all okP) := by
  unfold impl_pointsOk.f
  have := points_loop l hl l.length k 0 (by omega) (by omega) hk
  simpa using this

def needI (a : Int) : Int := if a = 1 then 1 else if a = 2 then 1 else if a = 3 then 2 else if a = 4 then 3 else if a = 5 then 0 else -1
theorem needI_in (a : Int) : -1 ≤ needI a ∧ needI a ≤ 3 := by
  unfold needI
  repeat (first | omega | split)
theorem needI_ok {a : Int} (h : 0 ≤ needI a) : 1 ≤ a ∧ a ≤ 5 := by
  unfold needI at h
  repeat (first | omega | (split at h))
theorem spec_need (a : Int) : spec_NeedOf.f a = some (needI a) := by
  by_cases h : 1 ≤ a ∧ a ≤ 5
  · have hc : a = 1 ∨ a = 2 ∨ a = 3 ∨ a = 4 ∨ a = 5 := by omega
    rcases hc with rfl | rfl | rfl | rfl | rfl <;> decide +kernel
  · have e : spec_l01In.f a 1 5 = some false := by
      unfold spec_l01In.f
      by_cases h1 : a ≥ 1
      · rw [if_pos h1, decide_eq_false (by omega)]
      · rw [if_neg h1]
    have h1 : ¬ a = 1 := by omega
    have h2 : ¬ a = 2 := by omega
    have h3 : ¬ a = 3 := by omega
    have h4 : ¬ a = 4 := by omega
    have h5 : ¬ a = 5 := by omega
    unfold spec_NeedOf.f needI
    rw [Option.bind_some, e]
    simp [h1, h2, h3, h4, h5]
theorem impl_need (k : Nat) (a : Int) : impl_NeedOf.f (k + 1) a = some (needI a) := by
  unfold impl_NeedOf.f needI
  by_cases h1 : a = 1
  · subst h1
    simp [impl_NeedOf.j0]
  · rw [if_neg h1, if_neg h1]
    by_cases h2 : a = 2
    · subst h2
      simp [impl_NeedOf.j0]
    · have e : (a == 2) = false := beq_eq_false_iff_ne.mpr h2
      simp only [impl_NeedOf.j0, e, if_neg h2, Bool.false_eq_true, if_false]
      repeat (first | rfl | split)

/-- The verbs gone through: how many points they take together; none where one is wrong. -/
def scanV : List Int → Bool → Int → Option Int
  | [], _, m => some m
  | v :: vs, b, m => if needI v < 0 then none else if b = true ∧ v ≠ 1 then none else scanV vs (v == 5) (m + needI v)
def pathB (v : List Int) (p : List S24) : Bool :=
  if p.length > 24 ∨ v.length > 24 then false else p.all okP && (match scanV v true 0 with | none => false | some m => m == (p.length : Int))
def beginsAt (v : List Int) (i : Nat) : Bool := if i = 0 then true else v[i - 1]?.getD 0 == 5
theorem implVerbs_loop (v : List Int) (p : List S24) (hv : v.length ≤ 24) (_ : p.length ≤ 24) (d : Nat) : ∀ (k i : Nat) (m : Int), v.length - i = d → i ≤ v.length → 0 ≤ m → m ≤ 3 * (i : Int) → d + 30 < k →
    impl_PathOk.l0 k m v (v.length : Int) (i : Int) v p = some (match scanV (v.drop i) (beginsAt v i) m with | none => false | some m => m == (p.length : Int)) := by
  induction d with
  | zero =>
    intro k i m hd hi h0 h1 hk
    obtain ⟨k, rfl⟩ : ∃ m, k = m + 1 := ⟨k - 1, by omega⟩
    simp only [impl_PathOk.l0]
    rw [if_neg (by omega), List.drop_of_length_le (by omega)]
    simp [scanV]
  | succ d ih =>
    intro k i m hd hi h0 h1 hk
    obtain ⟨k, rfl⟩ : ∃ m, k = m + 2 := ⟨k - 2, by omega⟩
    rw [impl_PathOk.l0]
    have hlt : i < v.length := by omega
    have c1 : (i : Int) < (v.length : Int) := by omega
    have c2 : (0 : Int) ≤ (i : Int) := by omega
    have hn := needI_in v[i]
    rw [if_pos c1, if_pos c2, if_pos c1, rdI v i hlt, impl_need, Option.bind_some, List.drop_eq_getElem_cons hlt]
    simp only [scanV]
    have hw : wrap64 ((i : Int) + 1) = ((i + 1 : Nat) : Int) := by rw [w64 (by omega) (by omega)]; omega
    have hm : wrap64 (m + needI v[i]) = m + needI v[i] := w64 (by omega) (by omega)
    rw [hw, hm]
    have hb : beginsAt v (i + 1) = (v[i] == 5) := by
      unfold beginsAt
      rw [if_neg (by omega), Nat.add_sub_cancel, List.getElem?_eq_getElem hlt]
      rfl
    by_cases hneg : needI v[i] < 0
    · simp only [if_pos hneg]
      by_cases hi0 : (i : Int) = 0
      · rw [if_pos hi0]
      · have e1 : wrap64 ((i : Int) - 1) = ((i - 1 : Nat) : Int) := by rw [w64 (by omega) (by omega)]; omega
        rw [if_neg hi0, e1, if_pos (show (0 : Int) ≤ ((i - 1 : Nat) : Int) by omega), if_pos (show ((i - 1 : Nat) : Int) < (v.length : Int) by omega)]
    · have g2 := ih (k + 1) (i + 1) (m + needI v[i]) (by omega) (by omega) (by omega) (by omega) (by omega)
      rw [hb] at g2
      simp only [if_neg hneg]
      by_cases hi0 : (i : Int) = 0
      · have hbi : beginsAt v i = true := by
          unfold beginsAt
          rw [if_pos (by omega)]
        rw [if_pos hi0, hbi]
        by_cases h1v : v[i] = 1
        · rw [if_pos h1v, if_neg (by simp [h1v])]
          exact g2
        · rw [if_neg h1v, if_pos (by simp [h1v])]
      · have e1 : wrap64 ((i : Int) - 1) = ((i - 1 : Nat) : Int) := by rw [w64 (by omega) (by omega)]; omega
        have c5 : (0 : Int) ≤ ((i - 1 : Nat) : Int) := by omega
        have c6 : ((i - 1 : Nat) : Int) < (v.length : Int) := by omega
        have hbi : beginsAt v i = (v[i - 1] == 5) := by
          unfold beginsAt
          rw [if_neg (by omega), List.getElem?_eq_getElem (by omega)]
          rfl
        rw [if_neg hi0, e1, if_pos c5, if_pos c6, rdI v (i - 1) (by omega), hbi]
        by_cases h5 : v[i - 1] = 5
        · rw [if_pos h5]
          by_cases h1v : v[i] = 1
          · rw [if_pos h1v, if_neg (by simp [h1v])]
            exact g2
          · rw [if_neg h1v, if_pos (by simp [h1v, h5])]
        · rw [if_neg h5, if_neg (by simp [h5])]
          exact g2
theorem impl_path (v : List Int) (p : List S24) (k : Nat) (hk : 60 < k) : impl_PathOk.f k v p = some (pathB v p) := by
  obtain ⟨k, rfl⟩ : ∃ m, k = m + 1 := ⟨k - 1, by omega⟩
  unfold impl_PathOk.f pathB
  by_cases h1 : (p.length : Int) > 24
  · rw [if_pos h1, if_pos (.inl (by omega))]
    simp [impl_PathOk.j0]
  · rw [if_neg h1]
    by_cases h2 : (v.length : Int) > 24
    · rw [if_pos h2, if_pos (.inr (by omega))]
      simp [impl_PathOk.j0]
    · rw [if_neg h2, if_neg (by omega), points_ok p (by omega) _ (by omega)]
      simp only [Option.bind_some, impl_PathOk.j0]
      cases hp : p.all okP
      · simp
      · have := implVerbs_loop v p (by omega) (by omega) v.length k 0 0 (by omega) (by omega) (by omega) (by omega) (by omega)
        rw [show ((0 : Nat) : Int) = 0 from rfl] at this
        simp only [Bool.not_true, Bool.false_eq_true, if_false]
        rw [this, List.drop_zero]
        have hb : beginsAt v 0 = true := rfl
        rw [hb]
        cases scanV v true 0 <;> simp

theorem floor_some (a b : Int) : ∃ r, spec_FloorDiv.f a b = some r := by
  unfold spec_FloorDiv.f
  split
  · exact ⟨_, rfl⟩
  · rw [if_neg (by omega)]
    split <;> exact ⟨_, rfl⟩
theorem round_some (a b : Int) : ∃ r, spec_RoundDiv.f a b = some r ∧ impl_RoundDiv.f a b = some r := by
  have e : impl_RoundDiv.f a b = spec_RoundDiv.f a b := rfl
  rw [e]
  unfold spec_RoundDiv.f
  split
  · exact ⟨_, rfl, rfl⟩
  · obtain ⟨q, h⟩ := floor_some a b
    rw [h]
    simp only [Option.bind_some]
    split <;> exact ⟨_, rfl, rfl⟩
theorem wrap_zero (y : Int) : wrap64 (0 + wrap64 y) = wrap64 y := by
  unfold wrap64
  omega
theorem wrap_wrap (y : Int) : wrap64 (wrap64 y) = wrap64 y := by
  unfold wrap64
  omega

theorem mat_in (a b c : Int) : ∃ r, spec_l01In.f a b c = some r ∧ impl_inRange.f a b c = some r := by
  obtain ⟨r, h⟩ := impl_inRange.total a b c
  exact ⟨r, (show spec_l01In.f a b c = some r from h), h⟩
theorem mat_far (a : Int) : ∃ r, spec_l01In.f a (-8388608) 8388608 = some r ∧ impl_isFar.f a = some r := by
  obtain ⟨r, h, g⟩ := mat_in a (-8388608) 8388608
  exact ⟨r, h, by unfold impl_isFar.f; rw [g]; rfl⟩
theorem mat_same (a b c d e f : Int) : ∃ r, spec_MatOk.f a b c d e f = some r ∧ impl_MatOk.f a b c d e f = some r := by
  obtain ⟨r1, h1, g1⟩ := mat_in a (-1048576) 1048576
  obtain ⟨r2, h2, g2⟩ := mat_in b (-1048576) 1048576
  obtain ⟨r3, h3, g3⟩ := mat_in c (-1048576) 1048576
  obtain ⟨r4, h4, g4⟩ := mat_in d (-1048576) 1048576
  obtain ⟨r5, h5, g5⟩ := mat_far e
  obtain ⟨r6, h6, g6⟩ := mat_far f
  unfold spec_MatOk.f impl_MatOk.f
  simp only [Option.bind_some, h1, h2, h3, h4, h5, h6, g1, g2, g3, g4, g5, g6]
  cases r1 <;> cases r2 <;> cases r3 <;> cases r4 <;> cases r5 <;> cases r6 <;> exact ⟨_, rfl, rfl⟩
/-- A point moved, without a look at whether it is right. -/
def apP (a b c d e f : Int) (p : S24) : S24 := ((impl_apply.f a b c d e f p.f0 p.f1).map fun q => (⟨q.1, q.2⟩ : S24)).getD p
theorem apply_ok (a b c d e f : Int) (p : S24) : ∃ q : Int × Int, impl_apply.f a b c d e f p.f0 p.f1 = some q ∧ apP a b c d e f p = ⟨q.1, q.2⟩ ∧ (farB q.1 = true ∧ farB q.2 = true) ∧
    (spec_MatOk.f a b c d e f = some true → okP p = true → ∀ k, spec_Apply.f (k + 1) a b c d e f p.f0 p.f1 = some q) := by
  obtain ⟨u, h3, g3⟩ := round_some (wrap64 ((wrap64 (a * p.f0)) + (wrap64 (c * p.f1)))) 65536
  obtain ⟨v, h4, g4⟩ := round_some (wrap64 ((wrap64 (b * p.f0)) + (wrap64 (d * p.f1)))) 65536
  have g : impl_apply.f a b c d e f p.f0 p.f1 = some (clampI (wrap64 (u + e)) (-8388608) 8388608, clampI (wrap64 (v + f)) (-8388608) 8388608) := by
    unfold impl_apply.f impl_mixed.f
    rw [g3, g4]
    simp only [Option.bind_some]
    rw [impl_clamp, impl_clamp]
    rfl
  refine ⟨_, g, ?_, ⟨farB_true.2 (clampI_in (by omega)), farB_true.2 (clampI_in (by omega))⟩, ?_⟩
  · unfold apP
    rw [g]
    rfl
  · intro hm hp k
    unfold okP at hp
    unfold spec_Apply.f
    rw [hm, Option.bind_some, if_pos rfl, spec_pointOk, hp, Option.bind_some, spec_Apply.j0, if_neg (by decide), h3, h4]
    simp only [Option.bind_some]
    rw [spec_clamp, spec_clamp]
    rfl
theorem apP_ok (a b c d e f : Int) (p : S24) : okP (apP a b c d e f p) = true := by
  obtain ⟨q, _, h, ⟨h1, h2⟩, _⟩ := apply_ok a b c d e f p
  rw [h]
  unfold okP
  rw [h1, h2]
  rfl
theorem move_loop (a b c d e f : Int) (v : List Int) (l : List S24) (hl : l.length ≤ 24) (n : Nat) : ∀ (k i : Nat) (acc : List S24), l.length - i = n → i ≤ l.length → acc.length = l.length → (∀ j, j < i → acc[j]? = (l.map (apP a b c d e f))[j]?) → n < k →
    impl_MovePath.l0 k l (l.length : Int) (i : Int) a b c d e f v acc = some (v, l.map (apP a b c d e f)) := by
  induction n with
  | zero =>
    intro k i acc hd hi ha hj hk
    obtain ⟨k, rfl⟩ : ∃ m, k = m + 1 := ⟨k - 1, by omega⟩
    simp only [impl_MovePath.l0]
    rw [if_neg (by omega)]
    congr 2
    apply List.ext_getElem?
    intro j
    by_cases h : j < i
    · exact hj j h
    · rw [List.getElem?_eq_none (by omega), List.getElem?_eq_none (by simp; omega)]
  | succ n ih =>
    intro k i acc hd hi ha hj hk
    obtain ⟨k, rfl⟩ : ∃ m, k = m + 1 := ⟨k - 1, by omega⟩
    simp only [impl_MovePath.l0]
    have hlt : i < l.length := by omega
    have c1 : (i : Int) < (l.length : Int) := by omega
    have c2 : (0 : Int) ≤ (i : Int) := by omega
    have c3 : (i : Int) < (acc.length : Int) := by omega
    obtain ⟨q, h, h', _, _⟩ := apply_ok a b c d e f l[i]
    rw [if_pos c1, if_pos c2, if_pos c1, rdP l i hlt, h, Option.bind_some, if_pos c3, w64 (n := (i : Int) + 1) (by omega) (by omega), show (i : Int) + 1 = ((i + 1 : Nat) : Int) by omega, show ((i : Int)).toNat = i by omega]
    refine ih k (i + 1) _ (by omega) (by omega) (by simp [ha]) (fun j hj1 => ?_) (by omega)
    rw [List.getElem?_set]
    by_cases h : i = j
    · subst h
      rw [if_pos rfl, if_pos (by omega), List.getElem?_map, List.getElem?_eq_getElem hlt]
      exact congrArg some h'.symm
    · rw [if_neg h]
      exact hj j (by omega)
/-- What the program's MovePath answers. -/
theorem impl_move (a b c d e f : Int) (v : List Int) (l : List S24) (m : Bool) (hm : impl_MatOk.f a b c d e f = some m) (k : Nat) (hk : 61 < k) :
    impl_MovePath.f k a b c d e f v l = some (if pathB v l && m then (v, l.map (apP a b c d e f)) else ([], [])) := by
  obtain ⟨k, rfl⟩ : ∃ m, k = m + 1 := ⟨k - 1, by omega⟩
  unfold impl_MovePath.f
  rw [impl_path v l _ (by omega), Option.bind_some]
  cases hp : pathB v l
  · simp [impl_MovePath.j0]
  · have hv : ¬ (l.length > 24 ∨ v.length > 24) := by
      intro h
      unfold pathB at hp
      rw [if_pos h] at hp
      cases hp
    rw [if_pos rfl, hm, Option.bind_some]
    cases m
    · simp [impl_MovePath.j0]
    · simp only [Bool.not_true, impl_MovePath.j0, Bool.false_eq_true, if_false, Bool.and_self, if_true]
      have hc : impl_copyPath.f v l = some (v, l) := by
        unfold impl_copyPath.f slices_Clone_int_int.f impl_Point.f
        rw [if_pos (by omega), Option.bind_some, if_pos (by omega), Option.bind_some]
      rw [hc, Option.bind_some]
      exact move_loop a b c d e f v l (by omega) l.length k 0 l (by omega) (by omega) rfl (fun j hj => absurd hj (by omega)) (by omega)

theorem spec_empty (a b c d : Int) : spec_Empty.f a b c d = some (emB a b c d) := by
  unfold spec_Empty.f
  exact emB_text a b c d

theorem impl_empty (a b c d : Int) : impl_Empty.f a b c d = some (emB a b c d) := by
  unfold impl_Empty.f
  exact emB_text a b c d

def mn (a b : Int) : Int := if b < a then b else a
def mx (a b : Int) : Int := if a < b then b else a

theorem spec_most (a b : Int) : spec_l05Most.f a b = some (mx a b) := by
  unfold spec_l05Most.f mx
  by_cases h : a < b
  · rw [if_neg (by omega), if_pos h]
  · rw [if_neg h]
    by_cases e : b < a
    · rw [if_pos (by omega)]
    · rw [if_neg (by omega), show a = b by omega]
theorem spec_least (a b : Int) : spec_l05Least.f a b = some (mn a b) := by
  unfold spec_l05Least.f mn
  by_cases h : b < a
  · rw [if_neg (by omega), if_pos h]
  · rw [if_neg h]
    by_cases e : a < b
    · rw [if_pos (by omega)]
    · rw [if_neg (by omega), show a = b by omega]

def joinB (a b : Int × Int × Int × Int) : Int × Int × Int × Int :=
  if emB a.1 a.2.1 a.2.2.1 a.2.2.2 && emB b.1 b.2.1 b.2.2.1 b.2.2.2 then (0, 0, 0, 0) else if emB a.1 a.2.1 a.2.2.1 a.2.2.2 then b else if emB b.1 b.2.1 b.2.2.1 b.2.2.2 then a
  else (mn a.1 b.1, mn a.2.1 b.2.1, mx a.2.2.1 b.2.2.1, mx a.2.2.2 b.2.2.2)

theorem spec_join (k : Nat) (a0 a1 a2 a3 b0 b1 b2 b3 : Int) : spec_JoinBox.f (k + 1) a0 a1 a2 a3 b0 b1 b2 b3 = some (joinB (a0, a1, a2, a3) (b0, b1, b2, b3)) := by
  unfold spec_JoinBox.f joinB
  simp only [spec_empty, Option.bind_some, spec_JoinBox.j0, spec_most, spec_least]
  cases emB a0 a1 a2 a3 <;> cases emB b0 b1 b2 b3 <;> simp

def c4 (x : Int) : Int := clampI x (-33554432) 33554432
theorem c4_in (x : Int) : -33554432 ≤ c4 x ∧ c4 x ≤ 33554432 := clampI_in (by omega)
theorem c4_self {x : Int} (h0 : -33554432 ≤ x) (h1 : x ≤ 33554432) : c4 x = x := clampI_self h0 h1
theorem spec_c4 (x : Int) : spec_l05Clamp.f x = some (c4 x) := by
  unfold spec_l05Clamp.f
  rw [spec_clamp]
  rfl

abbrev B4 := Int × Int × Int × Int
def inB (b : B4) (x y : Int) : Prop := b.1 ≤ x ∧ x < b.2.2.1 ∧ b.2.1 ≤ y ∧ y < b.2.2.2
theorem inB_left {a b : B4} {x y : Int} (h : inB a x y) : inB (joinB a b) x y := by
  obtain ⟨a0, a1, a2, a3⟩ := a
  obtain ⟨b0, b1, b2, b3⟩ := b
  simp only [inB] at h ⊢
  have ha : emB a0 a1 a2 a3 = false := emB_false.2 (by omega)
  unfold joinB
  simp only [ha]
  cases hb : emB b0 b1 b2 b3
  · simp only [Bool.and_self, Bool.false_eq_true, if_false, mn, mx]
    refine ⟨?_, ?_, ?_, ?_⟩ <;> split <;> omega
  · simpa using h
theorem inB_right {a b : B4} {x y : Int} (h : inB b x y) : inB (joinB a b) x y := by
  obtain ⟨a0, a1, a2, a3⟩ := a
  obtain ⟨b0, b1, b2, b3⟩ := b
  simp only [inB] at h ⊢
  have hb : emB b0 b1 b2 b3 = false := emB_false.2 (by omega)
  unfold joinB
  simp only [hb]
  cases ha : emB a0 a1 a2 a3
  · simp only [Bool.and_self, Bool.false_eq_true, if_false, mn, mx]
    refine ⟨?_, ?_, ?_, ?_⟩ <;> split <;> omega
  · simpa using h
def oneB (p : S24) : B4 := (c4 p.f0, c4 p.f1, c4 p.f0 + 1, c4 p.f1 + 1)
def boxFrom (b : B4) (l : List S24) : B4 := l.foldl (fun b p => joinB b (oneB p)) b
def boxL (l : List S24) : B4 := boxFrom (0, 0, 0, 0) l
theorem boxFrom_in (l : List S24) : ∀ (b : B4) (x y : Int), inB b x y → inB (boxFrom b l) x y := by
  induction l with
  | nil => intro b x y h; exact h
  | cons p l ih => intro b x y h; exact ih _ x y (inB_left h)
theorem boxL_has (l : List S24) : ∀ (b : B4) (p : S24), p ∈ l → inB (boxFrom b l) (c4 p.f0) (c4 p.f1) := by
  induction l with
  | nil => intro b p h; simp at h
  | cons q l ih =>
    intro b p h
    rcases List.mem_cons.1 h with rfl | h
    · refine boxFrom_in l _ _ _ (inB_right ?_)
      simp only [inB, oneB]
      omega
    · exact ih _ p h
theorem spec_box_loop (l : List S24) (hl : l.length ≤ 9223372036854775806) (d : Nat) : ∀ (k i : Nat) (b : B4), l.length - i = d → i ≤ l.length → d + 1 < k → spec_BoxOf.l0 k l (i : Int) b.1 b.2.1 b.2.2.1 b.2.2.2 = some (boxFrom b (l.drop i)) := by
  induction d with
  | zero =>
    intro k i b hd hi hk
    obtain ⟨k, rfl⟩ : ∃ m, k = m + 1 := ⟨k - 1, by omega⟩
    simp only [spec_BoxOf.l0]
    rw [if_neg (by omega), List.drop_of_length_le (by omega)]
    rfl
  | succ d ih =>
    intro k i b hd hi hk
    obtain ⟨k, rfl⟩ : ∃ m, k = m + 2 := ⟨k - 2, by omega⟩
    rw [spec_BoxOf.l0]
    have hlt : i < l.length := by omega
    have c1 : (i : Int) < (l.length : Int) := by omega
    have c2 : (0 : Int) ≤ (i : Int) := by omega
    have h0 := c4_in l[i].f0
    have h1 := c4_in l[i].f1
    rw [if_pos c1, if_pos c2, rdP l i hlt, spec_c4, Option.bind_some, spec_c4, Option.bind_some, w64 (n := c4 l[i].f0 + 1) (by omega) (by omega), w64 (n := c4 l[i].f1 + 1) (by omega) (by omega), spec_join, Option.bind_some,
      w64 (n := (i : Int) + 1) (by omega) (by omega), show (i : Int) + 1 = ((i + 1 : Nat) : Int) by omega, ih (k + 1) (i + 1) _ (by omega) (by omega) (by omega), List.drop_eq_getElem_cons hlt]
    rfl
theorem spec_box (l : List S24) (hl : l.length ≤ 9223372036854775806) (k : Nat) (hk : l.length + 1 < k) : spec_BoxOf.f k l = some (boxL l) := by
  unfold spec_BoxOf.f
  have := spec_box_loop l hl l.length k 0 (0, 0, 0, 0) (by omega) (by omega) hk
  simpa [boxL] using this

/-- A draw of one byte, wherever the reader stands. -/
theorem draw_byte (l : List Int) (hl : l.length ≤ 140737488355328) (i h : Int) (h0 : 0 ≤ i) (h1 : i ≤ l.length) :
    ∃ x i' h' : Int, spec_l01Byte.f l i h = some (x, i', h') ∧ 0 ≤ x ∧ x < 256 ∧ 0 ≤ i' ∧ i' ≤ l.length := by
  unfold spec_l01Byte.f
  by_cases hlt : i < (l.length : Int)
  · rw [if_pos hlt, if_pos h0, w64 (n := i + 1) (by omega) (by omega)]
    exact ⟨_, _, _, rfl, (and255 _).1, (and255 _).2, by omega, by omega⟩
  · rw [if_neg hlt]
    exact ⟨_, _, _, rfl, (and255 _).1, (and255 _).2, h0, h1⟩

/-- A drawn number below n. -/
theorem draw_below (l : List Int) (hl : l.length ≤ 140737488355328) (i h : Int) (h0 : 0 ≤ i) (h1 : i ≤ l.length) (n : Int) (hn : 0 < n) :
    ∃ x i' h' : Int, spec_l01Below.f l i h n = some (x, i', h') ∧ 0 ≤ x ∧ x < n ∧ 0 ≤ i' ∧ i' ≤ l.length := by
  unfold spec_l01Below.f
  obtain ⟨x, i1, g1, e1, a1, b1, c1, d1⟩ := draw_byte l hl i h h0 h1
  rw [if_neg (by omega)]
  by_cases hs : n ≤ 256
  · rw [if_pos hs, e1]
    simp only [Option.bind_some]
    rw [if_neg (by omega), tmod_pos a1]
    exact ⟨_, _, _, rfl, Int.emod_nonneg _ (by omega), Int.emod_lt_of_pos _ hn, c1, d1⟩
  · obtain ⟨y, i2, g2, e2, a2, b2, c2, d2⟩ := draw_byte l hl i1 g1 c1 d1
    obtain ⟨z, i3, g3, e3, a3, b3, c3, d3⟩ := draw_byte l hl i2 g2 c2 d2
    obtain ⟨w, i4, g4, e4, a4, b4, c4, d4⟩ := draw_byte l hl i3 g3 c3 d3
    rw [if_neg hs, e1]
    simp only [Option.bind_some, e2, e3, e4]
    rw [w64 (n := x * 16777216) (by omega) (by omega), w64 (n := y * 65536) (by omega) (by omega), w64 (n := z * 256) (by omega) (by omega), w64 (n := x * 16777216 + y * 65536) (by omega) (by omega),
      w64 (n := x * 16777216 + y * 65536 + z * 256) (by omega) (by omega), w64 (n := x * 16777216 + y * 65536 + z * 256 + w) (by omega) (by omega), if_neg (by omega), tmod_pos (by omega)]
    exact ⟨_, _, _, rfl, Int.emod_nonneg _ (by omega), Int.emod_lt_of_pos _ hn, c4, d4⟩

theorem draw_new_loop (l : List Int) (hl : l.length ≤ 140737488355328) (d : Nat) : ∀ (k : Nat) (h i : Int), 0 ≤ i → i ≤ l.length → (l.length : Int) - i = d → d < k → ∃ h' : Int, spec_l01New.l0 k l h i = some (l, 0, h') := by
  induction d with
  | zero =>
    intro k h i h0 h1 hd hk
    obtain ⟨k, rfl⟩ : ∃ m, k = m + 1 := ⟨k - 1, by omega⟩
    simp only [spec_l01New.l0]
    rw [if_neg (by omega)]
    exact ⟨_, rfl⟩
  | succ d ih =>
    intro k h i h0 h1 hd hk
    obtain ⟨k, rfl⟩ : ∃ m, k = m + 1 := ⟨k - 1, by omega⟩
    simp only [spec_l01New.l0]
    have hlt : i < (l.length : Int) := by omega
    rw [if_pos hlt]
    by_cases h4 : i < 4000
    · rw [if_pos h4, if_pos h0, w64 (n := i + 1) (by omega) (by omega)]
      exact ih k _ (i + 1) (by omega) (by omega) (by omega) (by omega)
    · rw [if_neg h4]
      exact ⟨_, rfl⟩

theorem draw_new (l : List Int) (hl : l.length ≤ 140737488355328) (k : Nat) (hk : l.length < k) : ∃ h : Int, spec_l01New.f k l = some (l, 0, h) := by
  unfold spec_l01New.f
  exact draw_new_loop l hl l.length k _ 0 (by omega) (by omega) (by omega) hk

def Small (p : S24) : Prop := (-300 ≤ p.f0 ∧ p.f0 < 3300) ∧ -300 ≤ p.f1 ∧ p.f1 < 3300
theorem draw_point (l : List Int) (hl : l.length ≤ 140737488355328) (i h : Int) (h0 : 0 ≤ i) (h1 : i ≤ l.length) :
    ∃ x y i' h' : Int, spec_l04Point.f l i h = some (x, y, i', h') ∧ (-300 ≤ x ∧ x < 3300) ∧ (-300 ≤ y ∧ y < 3300) ∧ 0 ≤ i' ∧ i' ≤ l.length := by
  unfold spec_l04Point.f
  obtain ⟨x, i1, g1, e1, a1, b1, c1, d1⟩ := draw_below l hl i h h0 h1 3600 (by omega)
  obtain ⟨y, i2, g2, e2, a2, b2, c2, d2⟩ := draw_below l hl i1 g1 c1 d1 3600 (by omega)
  rw [e1]
  simp only [Option.bind_some, e2]
  rw [w64 (n := x - 300) (by omega) (by omega), w64 (n := y - 300) (by omega) (by omega)]
  exact ⟨_, _, _, _, rfl, by omega, by omega, c2, d2⟩

theorem in_yes {x lo hi : Int} (h0 : lo ≤ x) (h1 : x ≤ hi) : spec_l01In.f x lo hi = some true := by
  unfold spec_l01In.f
  rw [if_pos h0, decide_eq_true h1]
theorem mat_yes {a b c d e f : Int} (ha : -1048576 ≤ a ∧ a ≤ 1048576) (hb : -1048576 ≤ b ∧ b ≤ 1048576) (hc : -1048576 ≤ c ∧ c ≤ 1048576) (hd : -1048576 ≤ d ∧ d ≤ 1048576) (he : -8388608 ≤ e ∧ e ≤ 8388608) (hf : -8388608 ≤ f ∧ f ≤ 8388608) :
    spec_MatOk.f a b c d e f = some true := by
  unfold spec_MatOk.f
  rw [in_yes ha.1 ha.2, Option.bind_some, if_pos rfl, in_yes hb.1 hb.2, Option.bind_some, if_pos rfl, in_yes hc.1 hc.2, Option.bind_some, if_pos rfl, in_yes hd.1 hd.2, Option.bind_some, if_pos rfl, in_yes he.1 he.2, Option.bind_some, if_pos rfl, in_yes hf.1 hf.2, Option.bind_some]
/-- A drawn matrix is right and not far. -/
theorem draw_mat (l : List Int) (hl : l.length ≤ 140737488355328) (i h : Int) (h0 : 0 ≤ i) (h1 : i ≤ l.length) :
    ∃ a b c d e f i' h' : Int, spec_l04Mat.f l i h = some (a, b, c, d, e, f, i', h') ∧ ((-65536 ≤ a ∧ a ≤ 98304) ∧ (-65536 ≤ b ∧ b ≤ 65536) ∧ (-65536 ≤ c ∧ c ≤ 65536) ∧ (-65536 ≤ d ∧ d ≤ 98304) ∧ (-400 ≤ e ∧ e ≤ 800) ∧ (-400 ≤ f ∧ f ≤ 800)) ∧ 0 ≤ i' ∧ i' ≤ l.length := by
  unfold spec_l04Mat.f spec_Shift.f
  obtain ⟨x, i1, g1, e1, a1, b1, c1, d1⟩ := draw_below l hl i h h0 h1 1200 (by omega)
  obtain ⟨y, i2, g2, e2, a2, b2, c2, d2⟩ := draw_below l hl i1 g1 c1 d1 1200 (by omega)
  obtain ⟨z, i3, g3, e3, a3, b3, c3, d3⟩ := draw_below l hl i2 g2 c2 d2 6 (by omega)
  rw [e1]
  simp only [Option.bind_some, e2, e3]
  rw [w64 (n := x - 400) (by omega) (by omega), w64 (n := y - 400) (by omega) (by omega)]
  by_cases q0 : z = 0
  · rw [if_pos q0]
    obtain ⟨u, i4, g4, e4, a4, b4, c4, d4⟩ := draw_below l hl i3 g3 c3 d3 65536 (by omega)
    obtain ⟨v, i5, g5, e5, a5, b5, c5, d5⟩ := draw_below l hl i4 g4 c4 d4 65536 (by omega)
    rw [e4]
    simp only [Option.bind_some, e5]
    rw [w64 (n := 32768 + u) (by omega) (by omega), w64 (n := 32768 + v) (by omega) (by omega)]
    exact ⟨_, _, _, _, _, _, _, _, rfl, ⟨by omega, by omega, by omega, by omega, by omega, by omega⟩, c5, d5⟩
  · rw [if_neg q0]
    by_cases q1 : z = 1
    · rw [if_pos q1]
      exact ⟨_, _, _, _, _, _, _, _, rfl, ⟨by omega, by omega, by omega, by omega, by omega, by omega⟩, c3, d3⟩
    · rw [if_neg q1]
      by_cases q2 : z = 2
      · rw [if_pos q2]
        obtain ⟨u, i4, g4, e4, a4, b4, c4, d4⟩ := draw_below l hl i3 g3 c3 d3 65536 (by omega)
        rw [e4]
        simp only [Option.bind_some]
        rw [w64 (n := u - 32768) (by omega) (by omega)]
        exact ⟨_, _, _, _, _, _, _, _, rfl, ⟨by omega, by omega, by omega, by omega, by omega, by omega⟩, c4, d4⟩
      · rw [if_neg q2]
        exact ⟨_, _, _, _, _, _, _, _, rfl, ⟨by omega, by omega, by omega, by omega, by omega, by omega⟩, c3, d3⟩
/-- A drawn move. -/
theorem draw_moved (l : List Int) (hl : l.length ≤ 140737488355328) (k : Nat) (hk : l.length < k) :
    ∃ a b c d e f x y : Int, spec_DrawMoved.f k l = some (a, b, c, d, e, f, x, y) ∧ ((-65536 ≤ a ∧ a ≤ 98304) ∧ (-65536 ≤ b ∧ b ≤ 65536) ∧ (-65536 ≤ c ∧ c ≤ 65536) ∧ (-65536 ≤ d ∧ d ≤ 98304) ∧ (-400 ≤ e ∧ e ≤ 800) ∧ (-400 ≤ f ∧ f ≤ 800)) ∧
      (-300 ≤ x ∧ x < 3300) ∧ (-300 ≤ y ∧ y < 3300) := by
  obtain ⟨h, e0⟩ := draw_new l hl k hk
  obtain ⟨a, b, c, d, e, f, i', h', e1, hm, q0, q1⟩ := draw_mat l hl 0 h (by omega) (by omega)
  obtain ⟨x, y, i2, h2, e2, hx, hy, _, _⟩ := draw_point l hl i' h' q0 q1
  unfold spec_DrawMoved.f
  rw [e0, Option.bind_some]
  simp only
  rw [e1, Option.bind_some]
  simp only
  rw [e2, Option.bind_some]
  exact ⟨_, _, _, _, _, _, _, _, rfl, hm, hx, hy⟩

/-- Two drawn boxes and a drawn point. -/
theorem draw_boxes (l : List Int) (hl : l.length ≤ 140737488355328) (k : Nat) (hk : l.length < k) :
    ∃ a b c d p q r s x y : Int, spec_DrawBoxes.f k l = some (a, b, c, d, p, q, r, s, x, y) ∧ ((0 ≤ a ∧ a ≤ c ∧ c ≤ 16) ∧ (0 ≤ b ∧ b ≤ d ∧ d ≤ 16) ∧ (0 ≤ p ∧ p ≤ r ∧ r ≤ 16) ∧ (0 ≤ q ∧ q ≤ s ∧ s ≤ 16)) ∧ (0 ≤ x ∧ x < 18) ∧ (0 ≤ y ∧ y < 18) := by
  obtain ⟨h, e0⟩ := draw_new l hl k hk
  obtain ⟨x1, i1, g1, e1, a1, b1, c1, d1⟩ := draw_below l hl 0 h (by omega) (by omega) 9 (by omega)
  obtain ⟨x2, i2, g2, e2, a2, b2, c2, d2⟩ := draw_below l hl i1 g1 c1 d1 9 (by omega)
  obtain ⟨x3, i3, g3, e3, a3, b3, c3, d3⟩ := draw_below l hl i2 g2 c2 d2 9 (by omega)
  obtain ⟨x4, i4, g4, e4, a4, b4, c4, d4⟩ := draw_below l hl i3 g3 c3 d3 9 (by omega)
  obtain ⟨x5, i5, g5, e5, a5, b5, c5, d5⟩ := draw_below l hl i4 g4 c4 d4 9 (by omega)
  obtain ⟨x6, i6, g6, e6, a6, b6, c6, d6⟩ := draw_below l hl i5 g5 c5 d5 9 (by omega)
  obtain ⟨x7, i7, g7, e7, a7, b7, c7, d7⟩ := draw_below l hl i6 g6 c6 d6 9 (by omega)
  obtain ⟨x8, i8, g8, e8, a8, b8, c8, d8⟩ := draw_below l hl i7 g7 c7 d7 9 (by omega)
  obtain ⟨x9, i9, g9, e9, a9, b9, c9, d9⟩ := draw_below l hl i8 g8 c8 d8 18 (by omega)
  obtain ⟨x0, i0, g0, e0', a0, b0, c0, d0⟩ := draw_below l hl i9 g9 c9 d9 18 (by omega)
  unfold spec_DrawBoxes.f
  rw [e0]
  simp only [Option.bind_some, e1, e2, e3, e4, e5, e6, e7, e8, e9, e0']
  rw [w64 (n := x1 + x3) (by omega) (by omega), w64 (n := x2 + x4) (by omega) (by omega), w64 (n := x5 + x7) (by omega) (by omega), w64 (n := x6 + x8) (by omega) (by omega)]
  exact ⟨_, _, _, _, _, _, _, _, _, _, rfl, ⟨by omega, by omega, by omega, by omega⟩, ⟨a9, b9⟩, a0, b0⟩

def rectL (a b c d : Int) : List S24 := [⟨a, b⟩, ⟨c, b⟩, ⟨c, d⟩, ⟨a, d⟩]

theorem rect_both (a b c d : Int) (k : Nat) : ∃ r : List Int × List S24, spec_RectPath.f a b c d = some r ∧ impl_RectPath.f (k + 10) a b c d = some r ∧ (r = ([], []) ∨ r = ([1, 2, 2, 2, 5], rectL a b c d)) := by
  unfold spec_RectPath.f impl_RectPath.f impl_corners.f
  simp only [Option.bind_some, spec_empty, impl_empty]
  rw [points_ok _ (by simp) _ (by simp)]
  cases emB a b c d
  · simp only [Bool.false_eq_true, if_false, Option.bind_some, spec_pointOk, List.all_cons, List.all_nil, okP, rd_T24]
    cases ha : farB a <;> cases hb : farB b <;> cases hc : farB c <;> cases hd : farB d <;> simp [ha, hb, hc, hd, rectL]
  · exact ⟨([], []), rfl, rfl, .inl rfl⟩

theorem scan_snoc (w : Int) : ∀ (v : List Int) (b : Bool) (m : Int), scanV (v ++ [w]) b m = (scanV v b m).bind fun m' => if needI w < 0 then none else if (match v.getLast? with | none => b | some z => z == 5) = true ∧ w ≠ 1 then none else some (m' + needI w)
  | [], b, m => by
    show scanV [w] b m = _
    simp only [scanV, Option.bind_some, List.getLast?_nil]
    rfl
  | x :: vs, b, m => by
    show scanV (x :: (vs ++ [w])) b m = _
    simp only [scanV]
    by_cases h1 : needI x < 0
    · rw [if_pos h1, if_pos h1]
      rfl
    · rw [if_neg h1, if_neg h1]
      by_cases h2 : b = true ∧ x ≠ 1
      · rw [if_pos h2, if_pos h2]
        rfl
      · rw [if_neg h2, if_neg h2, scan_snoc w vs]
        cases vs with
        | nil => rfl
        | cons y ys => simp [List.getLast?_cons]
/-- A path on the way: its verbs take this many points; all points are near. -/
def On (v : List Int) (p : List S24) (m : Int) : Prop := scanV v true 0 = some m ∧ m ≤ 24 ∧ ∀ q ∈ p, Small q
theorem small_ok {q : S24} (h : Small q) : okP q = true := by
  obtain ⟨⟨a, b⟩, c, d⟩ := h
  unfold okP
  rw [farB_true.2 ⟨by omega, by omega⟩, farB_true.2 ⟨by omega, by omega⟩]
  rfl
theorem path_right {v : List Int} {p : List S24} (hv : v.length ≤ 24) (h : On v p (p.length : Int)) : pathB v p = true := by
  obtain ⟨h1, h2, h3⟩ := h
  unfold pathB
  rw [if_neg (by omega), h1, List.all_eq_true.2 (fun q hq => small_ok (h3 q hq))]
  simp
theorem verb_points (l : List Int) (hl : l.length ≤ 140737488355328) (i verb : Int) (v : List Int) (n : Nat) : ∀ (k : Nat) (j st h : Int) (p : List S24), 0 ≤ j → needI verb - j = n → 0 ≤ st → st ≤ l.length → p.length + n ≤ 24 → (∀ q ∈ p, Small q) →
    ∃ (st' h' : Int) (p' : List S24), spec_l06Path.l1 (k + n + 1) i verb j l st h v p = spec_l06Path.l0 k (wrap64 (i + 1)) l st' h' v p' ∧ p'.length = p.length + n ∧ (∀ q ∈ p', Small q) ∧ 0 ≤ st' ∧ st' ≤ l.length := by
  have hn := needI_in verb
  induction n with
  | zero =>
    intro k j st h p h0 hd s0 s1 hp hq
    rw [spec_l06Path.l1, spec_need, Option.bind_some, if_neg (by omega)]
    exact ⟨st, h, p, rfl, rfl, hq, s0, s1⟩
  | succ n ih =>
    intro k j st h p h0 hd s0 s1 hp hq
    obtain ⟨x, y, st1, h1, e, hx, hy, t0, t1⟩ := draw_point l hl st h s0 s1
    rw [spec_l06Path.l1, spec_need, Option.bind_some, if_pos (by omega), e, Option.bind_some, if_pos (by omega), w64 (n := j + 1) (by omega) (by omega)]
    obtain ⟨st', h', p', e', g1, g2, g3⟩ := ih k (j + 1) st1 h1 (p ++ [⟨x, y⟩]) (by omega) (by omega) t0 t1 (by simp; omega) (fun q hm => by
      rcases List.mem_append.1 hm with hm | hm
      · exact hq q hm
      · rw [List.mem_singleton.1 hm]
        exact ⟨hx, hy⟩)
    refine ⟨st', h', p', e', ?_, g2, g3⟩
    rw [g1, List.length_append, List.length_singleton]
    omega
theorem drawn_verb (l : List Int) (hl : l.length ≤ 140737488355328) (i h : Int) (h0 : 0 ≤ i) (h1 : i ≤ l.length) :
    ∃ x i' h' : Int, spec_l01PickInt.f l i h [2, 2, 2, 3, 4, 5, 1] = some (x, i', h') ∧ (1 ≤ x ∧ x ≤ 5) ∧ 0 ≤ i' ∧ i' ≤ l.length := by
  unfold spec_l01PickInt.f
  obtain ⟨x, i1, g1, e1, a1, b1, c1, d1⟩ := draw_below l hl i h h0 h1 7 (by omega)
  have e1 : spec_l01Below.f l i h (([2, 2, 2, 3, 4, 5, 1] : List Int).length : Int) = some (x, i1, g1) := e1
  rw [e1, Option.bind_some]
  simp only
  rw [if_pos a1, if_pos (by simpa using b1)]
  obtain ⟨n, rfl⟩ := Int.eq_ofNat_of_zero_le a1
  have hn : n < 7 := by omega
  refine ⟨_, _, _, rfl, ?_, c1, d1⟩
  clear e1 a1 b1 c1 d1
  have z : ∀ n : Nat, n < 7 → 1 ≤ rd [2, 2, 2, 3, 4, 5, 1] (n : Int) ∧ rd [2, 2, 2, 3, 4, 5, 1] (n : Int) ≤ 5 := by decide
  exact z n hn
theorem path_loop (l : List Int) (hl : l.length ≤ 140737488355328) (n : Nat) : ∀ (k i : Nat) (st h : Int) (v : List Int) (p : List S24), 6 - i = n → i ≤ 6 → v.length = i → On v p (p.length : Int) → 0 ≤ st → st ≤ l.length → 8 * n + 8 < k →
    ∃ (v' : List Int) (p' : List S24) (st' h' : Int), spec_l06Path.l0 k (i : Int) l st h v p = some (v', p', st', h') ∧ v'.length ≤ 24 ∧ On v' p' (p'.length : Int) := by
  induction n with
  | zero =>
    intro k i st h v p hn hi hv ho s0 s1 hk
    obtain ⟨k, rfl⟩ : ∃ m, k = m + 1 := ⟨k - 1, by omega⟩
    obtain ⟨x, i1, g1, e1, a1, b1, c1, d1⟩ := draw_below l hl st h s0 s1 6 (by omega)
    rw [spec_l06Path.l0, e1, Option.bind_some]
    simp only
    rw [w64 (n := 1 + x) (by omega) (by omega), if_neg (by omega)]
    exact ⟨v, p, _, _, rfl, by omega, ho⟩
  | succ n ih =>
    intro k i st h v p hn hi hv ho s0 s1 hk
    obtain ⟨k, rfl⟩ : ∃ m, k = m + 7 := ⟨k - 7, by omega⟩
    obtain ⟨x, i1, g1, e1, a1, b1, c1, d1⟩ := draw_below l hl st h s0 s1 6 (by omega)
    rw [spec_l06Path.l0, e1, Option.bind_some]
    simp only
    rw [w64 (n := 1 + x) (by omega) (by omega)]
    by_cases hx : (i : Int) < 1 + x
    · rw [if_pos hx]
      obtain ⟨w, i2, g2, e2, hw, c2, d2⟩ := drawn_verb l hl i1 g1 c1 d1
      rw [e2, Option.bind_some]
      simp only
      have go : ∀ verb : Int, 1 ≤ verb ∧ verb ≤ 5 → ((match v.getLast? with | none => true | some z => z == 5) = true → verb = 1) →
          ∃ (v' : List Int) (p' : List S24) (st' h' : Int), spec_l06Path.j2 (k + 5) (i : Int) verb l i2 g2 v p = some (v', p', st', h') ∧ v'.length ≤ 24 ∧ On v' p' (p'.length : Int) := by
        intro verb hb hf
        have hn0 : 0 ≤ needI verb ∧ needI verb ≤ 3 := by
          refine ⟨?_, (needI_in verb).2⟩
          unfold needI
          repeat' split
          all_goals omega
        obtain ⟨ho1, ho2, ho3⟩ := ho
        rw [spec_l06Path.j2, spec_need, Option.bind_some, w64 (n := (p.length : Int) + needI verb) (by omega) (by omega)]
        by_cases hm : (p.length : Int) + needI verb > 24
        · rw [if_pos hm]
          exact ⟨v, p, _, _, rfl, by omega, ho1, ho2, ho3⟩
        · rw [if_neg hm, if_pos (by omega)]
          obtain ⟨m, hm2⟩ := Int.eq_ofNat_of_zero_le hn0.1
          obtain ⟨st', h', p', e', q1, q2, q3, q4⟩ := verb_points l hl (i : Int) verb (v ++ [verb]) m (k + 3 - m) 0 i2 g2 p (by omega) (by omega) c2 d2 (by omega) ho3
          rw [show k + 3 - m + m + 1 = k + 4 by omega] at e'
          rw [e', w64 (n := (i : Int) + 1) (by omega) (by omega), show (i : Int) + 1 = ((i + 1 : Nat) : Int) by omega]
          refine ih _ (i + 1) st' h' _ p' (by omega) (by omega) (by simp [hv]) ⟨?_, by omega, q2⟩ q3 q4 (by omega)
          rw [scan_snoc, ho1, Option.bind_some, if_neg (by omega), if_neg (by
            intro hc
            exact hc.2 (hf hc.1))]
          congr 1
          omega
      by_cases hi0 : (i : Int) = 0
      · rw [if_pos hi0, spec_l06Path.j1, if_pos rfl]
        exact go 1 (by omega) (fun _ => rfl)
      · rw [if_neg hi0, w64 (n := (i : Int) - 1) (by omega) (by omega), if_pos (by omega), if_pos (by omega), show (i : Int) - 1 = ((i - 1 : Nat) : Int) by omega, rdI v (i - 1) (by omega)]
        have hlast : v.getLast? = some v[i - 1] := by
          rw [List.getLast?_eq_getElem?, List.getElem?_eq_getElem (by omega)]
          congr 1
          congr 1
          omega
        by_cases h5 : v[i - 1] = 5
        · rw [spec_l06Path.j1, if_pos (by simp [h5])]
          exact go 1 (by omega) (fun _ => rfl)
        · rw [spec_l06Path.j1, if_neg (by simp [h5])]
          exact go w hw (fun hc => by
            rw [hlast] at hc
            exact absurd (by simpa using hc) h5)
    · rw [if_neg hx]
      exact ⟨v, p, _, _, rfl, by omega, ho⟩
theorem rect_right (a b c d : Int) (ha : 0 ≤ a ∧ a ≤ 8000) (hb : 0 ≤ b ∧ b ≤ 8000) (hc : 0 ≤ c ∧ c ≤ 8000) (hd : 0 ≤ d ∧ d ≤ 8000) : pathB [1, 2, 2, 2, 5] (rectL a b c d) = true := by
  unfold pathB rectL
  rw [if_neg (by simp)]
  simp only [List.all_cons, List.all_nil, okP]
  rw [farB_true.2 ⟨by omega, by omega⟩, farB_true.2 ⟨by omega, by omega⟩, farB_true.2 ⟨by omega, by omega⟩, farB_true.2 ⟨by omega, by omega⟩]
  rfl
theorem pathB_nil : pathB [] [] = true := rfl
/-- A drawn right path is one. -/
theorem draw_right (l : List Int) (hl : l.length ≤ 140737488355328) (k : Nat) (hk : l.length + 100 < k) :
    ∃ (v : List Int) (p : List S24), spec_DrawRightPath.f k l = some (v, p) ∧ pathB v p = true := by
  obtain ⟨h, e0⟩ := draw_new l hl k (by omega)
  unfold spec_DrawRightPath.f spec_l06Path.f spec_l01Once.f
  obtain ⟨x, i1, g1, e1, a1, b1, c1, d1⟩ := draw_below l hl 0 h (by omega) (by omega) 2 (by omega)
  rw [e0, Option.bind_some]
  simp only
  rw [e1, Option.bind_some]
  simp only [Option.bind_some]
  by_cases hx : (x == 0) = true
  · rw [if_pos hx]
    obtain ⟨x2, i2, g2, e2, a2, b2, c2, d2⟩ := draw_below l hl i1 g1 c1 d1 2400 (by omega)
    obtain ⟨x3, i3, g3, e3, a3, b3, c3, d3⟩ := draw_below l hl i2 g2 c2 d2 2400 (by omega)
    obtain ⟨x4, i4, g4, e4, a4, b4, c4, d4⟩ := draw_below l hl i3 g3 c3 d3 1500 (by omega)
    obtain ⟨x5, i5, g5, e5, a5, b5, c5, d5⟩ := draw_below l hl i4 g4 c4 d4 1500 (by omega)
    rw [e2, Option.bind_some]
    simp only [Option.bind_some, e3, e4, e5]
    rw [w64 (n := x2 + 1) (by omega) (by omega), w64 (n := x3 + 1) (by omega) (by omega), w64 (n := x2 + 1 + x4) (by omega) (by omega), w64 (n := x3 + 1 + x5) (by omega) (by omega)]
    obtain ⟨r, er, _, hr⟩ := rect_both x2 x3 (x2 + 1 + x4) (x3 + 1 + x5) 0
    rw [er]
    simp only [Option.bind_some]
    rcases hr with rfl | rfl
    · exact ⟨_, _, rfl, pathB_nil⟩
    · exact ⟨_, _, rfl, rect_right _ _ _ _ (by omega) (by omega) (by omega) (by omega)⟩
  · rw [if_neg hx]
    obtain ⟨v, p, st, h', e, hv, ho⟩ := path_loop l hl 6 k 0 i1 g1 [] [] (by omega) (by omega) rfl ⟨rfl, by simp, by simp⟩ c1 d1 (by omega)
    have e : spec_l06Path.l0 k 0 l i1 g1 [] [] = some (v, p, st, h') := e
    rw [e, Option.bind_some]
    exact ⟨v, p, rfl, path_right hv ho⟩

theorem pathB_true {v : List Int} {p : List S24} (h : pathB v p = true) : p.length ≤ 24 ∧ v.length ≤ 24 ∧ p.all okP = true := by
  unfold pathB at h
  by_cases hb : p.length > 24 ∨ v.length > 24
  · rw [if_pos hb] at h
    cases h
  · rw [if_neg hb, Bool.and_eq_true] at h
    exact ⟨by omega, by omega, h.1⟩
theorem pathB_moved (a b c d e f : Int) {v : List Int} {p : List S24} (h : pathB v p = true) : pathB v (p.map (apP a b c d e f)) = true := by
  unfold pathB at h ⊢
  rw [List.length_map]
  by_cases hb : p.length > 24 ∨ v.length > 24
  · rw [if_pos hb] at h
    cases h
  · rw [if_neg hb, Bool.and_eq_true] at h
    rw [if_neg hb, h.2, List.all_eq_true.2 (fun q hq => by
      obtain ⟨x, _, rfl⟩ := List.mem_map.1 hq
      exact apP_ok a b c d e f x)]
    rfl
theorem same_loop (l : List Int) (hl : l.length ≤ 24) (d : Nat) : ∀ (k i : Nat), l.length - i = d → i ≤ l.length → d < k → laws_sameInts.l0 k l l (i : Int) = some true := by
  induction d with
  | zero =>
    intro k i hd hi hk
    obtain ⟨k, rfl⟩ : ∃ m, k = m + 1 := ⟨k - 1, by omega⟩
    simp only [laws_sameInts.l0]
    rw [if_neg (by omega)]
  | succ d ih =>
    intro k i hd hi hk
    obtain ⟨k, rfl⟩ : ∃ m, k = m + 1 := ⟨k - 1, by omega⟩
    simp only [laws_sameInts.l0]
    have c1 : (i : Int) < (l.length : Int) := by omega
    have c2 : (0 : Int) ≤ (i : Int) := by omega
    rw [if_pos c1, if_pos c2, if_pos c1, if_pos trivial, w64 (n := (i : Int) + 1) (by omega) (by omega), show (i : Int) + 1 = ((i + 1 : Nat) : Int) by omega]
    exact ih k (i + 1) (by omega) (by omega) (by omega)
theorem same_self (l : List Int) (hl : l.length ≤ 24) (k : Nat) (hk : 24 < k) : laws_sameInts.f k l l = some true := by
  unfold laws_sameInts.f
  rw [if_pos rfl]
  exact same_loop l hl l.length k 0 (by omega) (by omega) (by omega)
theorem law_loop (x0 : List Int) (a b c d e f : Int) (hm : spec_MatOk.f a b c d e f = some true) (v w : List Int) (l : List S24) (hl : l.length ≤ 24) (ho : l.all okP = true) (n : Nat) : ∀ (k i : Nat), l.length - i = n → i ≤ l.length →
    laws_FnMovedPaths.l0 (k + n + 1) x0 (i : Int) a b c d e f v l w (l.map (apP a b c d e f)) = laws_FnMovedPaths.l0 (k + 1) x0 (l.length : Int) a b c d e f v l w (l.map (apP a b c d e f)) := by
  induction n with
  | zero =>
    intro k i hd hi
    have e : i = l.length := by omega
    subst e
    rfl
  | succ n ih =>
    intro k i hd hi
    have hlt : i < l.length := by omega
    obtain ⟨q, _, h', _, h⟩ := apply_ok a b c d e f l[i]
    rw [show k + (n + 1) + 1 = (k + n + 1) + 1 by omega, laws_FnMovedPaths.l0, if_pos (show (i : Int) < (l.length : Int) by omega), if_pos (show (0 : Int) ≤ (i : Int) by omega), if_pos (show (i : Int) < ((l.map (apP a b c d e f)).length : Int) by rw [List.length_map]; omega),
      rdP l i hlt, rdP (l.map (apP a b c d e f)) i (by rw [List.length_map]; exact hlt), h hm (List.all_eq_true.1 ho _ (List.getElem_mem hlt)) (k + n), Option.bind_some, List.getElem_map, h', w64 (n := (i : Int) + 1) (by omega) (by omega), show (i : Int) + 1 = ((i + 1 : Nat) : Int) by omega]
    rw [if_neg (by simp)]
    exact ih k (i + 1) (by omega) (by omega)
theorem join_near {a b c d p q r s : Int} (h1 : emB a b c d = false) (h2 : emB p q r s = false) : joinB (a, b, c, d) (p, q, r, s) = (mn a p, mn b q, mx c r, mx d s) := by
  unfold joinB
  simp only [h1, h2, Bool.and_self, Bool.false_eq_true, if_false]
theorem join_none {p q r s : Int} (h2 : emB p q r s = false) : joinB (0, 0, 0, 0) (p, q, r, s) = (p, q, r, s) := by
  have h1 : emB 0 0 0 0 = true := rfl
  unfold joinB
  simp only [h1, h2, Bool.and_false, Bool.false_eq_true, if_false, if_true]
theorem mn_le {a b : Int} (h : a ≤ b) : mn a b = a ∧ mn b a = a := by
  unfold mn
  constructor <;> split <;> omega
theorem mx_le {a b : Int} (h : a ≤ b) : mx a b = b ∧ mx b a = b := by
  unfold mx
  constructor <;> split <;> omega
theorem rect_box {a b c d : Int} (ha : 0 ≤ a ∧ a < c ∧ c ≤ 16) (hb : 0 ≤ b ∧ b < d ∧ d ≤ 16) : boxL (rectL a b c d) = (a, b, c + 1, d + 1) := by
  have j1 : joinB (0, 0, 0, 0) (a, b, a + 1, b + 1) = (a, b, a + 1, b + 1) := join_none (emB_false.2 ⟨by omega, by omega⟩)
  have j2 : joinB (a, b, a + 1, b + 1) (c, b, c + 1, b + 1) = (a, b, c + 1, b + 1) := by
    rw [join_near (emB_false.2 ⟨by omega, by omega⟩) (emB_false.2 ⟨by omega, by omega⟩), (mn_le (show a ≤ c by omega)).1, (mn_le (show b ≤ b by omega)).1, (mx_le (show a + 1 ≤ c + 1 by omega)).1, (mx_le (show b + 1 ≤ b + 1 by omega)).1]
  have j3 : joinB (a, b, c + 1, b + 1) (c, d, c + 1, d + 1) = (a, b, c + 1, d + 1) := by
    rw [join_near (emB_false.2 ⟨by omega, by omega⟩) (emB_false.2 ⟨by omega, by omega⟩), (mn_le (show a ≤ c by omega)).1, (mn_le (show b ≤ d by omega)).1, (mx_le (show c + 1 ≤ c + 1 by omega)).1, (mx_le (show b + 1 ≤ d + 1 by omega)).1]
  have j4 : joinB (a, b, c + 1, d + 1) (a, d, a + 1, d + 1) = (a, b, c + 1, d + 1) := by
    rw [join_near (emB_false.2 ⟨by omega, by omega⟩) (emB_false.2 ⟨by omega, by omega⟩), (mn_le (show a ≤ a by omega)).1, (mn_le (show b ≤ d by omega)).1, (mx_le (show a + 1 ≤ c + 1 by omega)).2, (mx_le (show d + 1 ≤ d + 1 by omega)).1]
  unfold boxL boxFrom rectL oneB
  simp only [List.foldl_cons, List.foldl_nil]
  rw [c4_self (x := a) (by omega) (by omega), c4_self (x := b) (by omega) (by omega), c4_self (x := c) (by omega) (by omega), c4_self (x := d) (by omega) (by omega), j1, j2, j3, j4]
theorem FnMovedPaths : laws_FnMovedPaths.Pure := by
  intro l _ hl _
  refine ⟨l.length + 200, ?_⟩
  unfold laws_FnMovedPaths.f laws_big.f
  rw [Option.bind_some]
  by_cases hbig : decide ((l.length : Int) > 1048576) = true
  · rw [if_pos hbig]
  · rw [if_neg hbig]
    clear hbig
    obtain ⟨a, b, c, d, e, f, _, _, e1, ⟨m1, m2, m3, m4, m5, m6⟩, _⟩ := draw_moved l (by omega) (l.length + 200) (by omega)
    obtain ⟨v, p, e2, hp⟩ := draw_right l (by omega) (l.length + 200) (by omega)
    have hm : spec_MatOk.f a b c d e f = some true := mat_yes (by omega) (by omega) (by omega) (by omega) (by omega) (by omega)
    have hm' : impl_MatOk.f a b c d e f = some true := by
      obtain ⟨r, h1, h2⟩ := mat_same a b c d e f
      rw [hm] at h1
      rw [h2, ← h1]
    obtain ⟨p1, p2, p3⟩ := pathB_true hp
    have e3 := impl_move a b c d e f v p true hm' (l.length + 200) (by omega)
    rw [hp, Bool.and_self, if_pos rfl] at e3
    rw [e1, Option.bind_some]
    simp only
    rw [e2, Option.bind_some]
    simp only
    rw [e3, Option.bind_some]
    simp only
    rw [same_self v p2 _ (by omega), Option.bind_some, if_pos rfl, impl_path v _ _ (by omega), pathB_moved a b c d e f hp, Option.bind_some]
    rw [show l.length + 200 = (l.length + 199) + 1 by omega, laws_FnMovedPaths.j0, if_neg (by simp)]
    have hw := law_loop l a b c d e f hm v v p p1 p3 p.length (l.length + 198 - p.length) 0 (by omega) (by omega)
    rw [show l.length + 198 - p.length + p.length + 1 = l.length + 199 by omega, show l.length + 198 - p.length + 1 = (l.length + 198 - p.length) + 1 by omega] at hw
    refine Eq.trans hw ?_
    have hk : 150 + l.length < l.length + 198 - p.length := by omega
    generalize l.length + 198 - p.length = k at hk
    obtain ⟨x1, y1, x2, y2, _, _, _, _, _, _, e4, ⟨q1, q2, _⟩, _⟩ := draw_boxes l (by omega) k (by omega)
    rw [laws_FnMovedPaths.l0, if_neg (by omega), e4, Option.bind_some]
    simp only
    obtain ⟨r, _, e5, hr⟩ := rect_both x1 y1 x2 y2 (k - 10)
    rw [show k - 10 + 10 = k by omega] at e5
    cases hem : emB x1 y1 x2 y2
    · have hem1 := emB_false.1 hem
      have hr1 : r = ([1, 2, 2, 2, 5], rectL x1 y1 x2 y2) := by
        have e6 : impl_RectPath.f k x1 y1 x2 y2 = some ([1, 2, 2, 2, 5], rectL x1 y1 x2 y2) := by
          unfold impl_RectPath.f impl_corners.f
          rw [Option.bind_some, impl_empty, hem, Option.bind_some, if_neg (by decide), points_ok _ (by simp) _ (by simp; omega), Option.bind_some]
          have ho : (([⟨x1, y1⟩, ⟨x2, y1⟩, ⟨x2, y2⟩, ⟨x1, y2⟩] : List S24)).all okP = true := by
            simp only [List.all_cons, List.all_nil, okP]
            rw [farB_true.2 ⟨by omega, by omega⟩, farB_true.2 ⟨by omega, by omega⟩, farB_true.2 ⟨by omega, by omega⟩, farB_true.2 ⟨by omega, by omega⟩]
            rfl
          rw [ho, if_pos rfl]
          rfl
        rw [e5] at e6
        exact Option.some.inj e6
      subst hr1
      rw [e5, Option.bind_some, spec_empty, hem, Option.bind_some, if_neg (by decide), spec_box _ (by simp [rectL]) _ (by simp [rectL]; omega), rect_box (by omega) (by omega), Option.bind_some]
      simp only
      rw [if_pos trivial, if_pos trivial, w64 (n := x2 + 1) (by omega) (by omega), if_pos rfl, w64 (n := y2 + 1) (by omega) (by omega), if_pos rfl, impl_path _ _ _ (by omega), rect_right _ _ _ _ (by omega) (by omega) (by omega) (by omega), Option.bind_some]
    · have hr1 : r = ([], []) := by
        have e6 : impl_RectPath.f k x1 y1 x2 y2 = some ([], []) := by
          unfold impl_RectPath.f impl_corners.f
          rw [Option.bind_some, impl_empty, hem, Option.bind_some, if_pos rfl]
        rw [e5] at e6
        exact Option.some.inj e6
      subst hr1
      rw [e5, Option.bind_some, spec_empty, hem, Option.bind_some, if_pos rfl]
      rfl
end Go.Proofs.Ytdlocaecdlgnjaa.Pure
