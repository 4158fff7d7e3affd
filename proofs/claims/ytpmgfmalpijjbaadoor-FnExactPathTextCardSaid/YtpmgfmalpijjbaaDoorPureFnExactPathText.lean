/- FnExactPathText: the program's PathText and the reference's agree, for every path. -/
import Derived.Test.YtpmgfmalpijjbaaDoorQFnExactPathTextx0
import Derived.Test.YtpmgfmalpijjbaaDoorQFnExactPathTextx1
import Derived.Test.YtpmgfmalpijjbaaDoorQFnExactPathTextx2
import Derived.Test.YtpmgfmalpijjbaaDoorQFnExactPathTextx3
import Derived.Test.YtpmgfmalpijjbaaDoorQFnExactPathTextx4
import Derived.Test.YtpmgfmalpijjbaaDoorQFnExactPathTextx5
import Derived.Test.YtpmgfmalpijjbaaDoorQFnExactPathTextx6
import Derived.Test.YtpmgfmalpijjbaaDoorQFnExactPathTextx7
import Derived.Test.YtpmgfmalpijjbaaDoorPlain
namespace Go.Proofs.YtpmgfmalpijjbaaDoor.Pure
open Go.RowKit Go.Proofs.YtpmgfmalpijjbaaDoor.PFnExactPathText Go.Proofs.YtpmgfmalpijjbaaDoor.Plain Go.Proofs.YtpmgfmalpijjbaaDoorW.PrintWords Go.Proofs.YtpmgfmalpijjbaaDoorW.PrintLast

def farB (x : Int) : Bool := decide (-8388608 ≤ x) && decide (x ≤ 8388608)
theorem farB_true {x : Int} : farB x = true ↔ -8388608 ≤ x ∧ x ≤ 8388608 := by simp [farB]

theorem spec_far (x : Int) : spec_l01In.f x (-8388608) 8388608 = some (farB x) := by
  unfold spec_l01In.f farB
  by_cases h : -8388608 ≤ x
  · rw [if_pos h]
    simp [h]
  · rw [if_neg h]
    simp [h]
theorem spec_pointOk (x y : Int) : spec_PointOk.f x y = some (farB x && farB y) := by
  unfold spec_PointOk.f
  rw [spec_far, spec_far]
  cases farB x <;> rfl

theorem impl_far (x : Int) : impl_isFar.f x = some (farB x) := by
  unfold impl_isFar.f impl_inRange.f farB
  by_cases h : -8388608 ≤ x
  · rw [if_pos h]
    simp [h]
  · rw [if_neg h]
    simp [h]
theorem impl_pointOk (x y : Int) : impl_PointOk.f x y = some (farB x && farB y) := by
  unfold impl_PointOk.f
  rw [impl_far, impl_far]
  cases farB x <;> rfl

theorem rdP (l : List S55) (i : Nat) (h : i < l.length) : rd_T55 l (i : Int) = l[i] := by
  unfold rd_T55
  rw [show ((i : Int)).toNat = i by omega, List.getD_eq_getElem?_getD, List.getElem?_eq_getElem h]
  rfl

theorem rdI (l : List Int) (i : Nat) (h : i < l.length) : rd l (i : Int) = l[i] := by
  unfold rd
  rw [show ((i : Int)).toNat = i by omega, List.getD_eq_getElem?_getD, List.getElem?_eq_getElem h]
  rfl

def okP (p : S55) : Bool := farB p.f0 && farB p.f1
theorem points_loop (l : List S55) (hl : l.length ≤ 9223372036854775806) (d : Nat) : ∀ (k i : Nat), l.length - i = d → i ≤ l.length → d < k → impl_pointsOk.l0 k l (l.length : Int) (i : Int) = some ((l.drop i).all okP) := by
  induction d with
  | zero =>
    intro k i hd hi hk
    obtain ⟨k, rfl⟩ : ∃ m, k = m + 1 := ⟨k - 1, by omega⟩
    simp only [impl_pointsOk.l0]
    rw [if_neg (by omega), List.drop_of_length_le (by omega)]
    rfl
  | succ d ih =>
    intro k i hd hi hk
    obtain ⟨k, rfl⟩ : ∃ m, k = m + 1 := ⟨k - 1, by omega⟩
    simp only [impl_pointsOk.l0]
    have hlt : i < l.length := by omega
    have c1 : (i : Int) < (l.length : Int) := by omega
    have c2 : (0 : Int) ≤ (i : Int) := by omega
    rw [if_pos c1, if_pos c2, if_pos c1, impl_pointOk, rdP l i hlt, w64 (n := (i : Int) + 1) (by omega) (by omega), show (i : Int) + 1 = ((i + 1 : Nat) : Int) by omega, ih k (i + 1) (by omega) (by omega) (by omega), List.drop_eq_getElem_cons hlt]
    simp only [Option.bind_some, List.all_cons, okP]
    cases farB l[i].f0 <;> cases farB l[i].f1 <;> simp
theorem points_ok (l : List S55) (hl : l.length ≤ 9223372036854775806) (k : Nat) (hk : l.length < k) : impl_pointsOk.f k l = some (l.all okP) := by
  unfold impl_pointsOk.f
  have := points_loop l hl l.length k 0 (by omega) (by omega) hk
  simpa using this

def needI (a : Int) : Int := if a = 1 then 1 else if a = 2 then 1 else if a = 3 then 2 else if a = 4 then 3 else if a = 5 then 0 else -1
theorem needI_in (a : Int) : -1 ≤ needI a ∧ needI a ≤ 3 := by
  unfold needI
  repeat (first | omega | split)
theorem needI_ok {a : Int} (h : 0 ≤ needI a) : 1 ≤ a ∧ a ≤ 5 := by
  unfold needI at h
  repeat (first | omega | (split at h))
theorem spec_need (a : Int) : spec_NeedOf.f a = some (needI a) := by
  by_cases h : 1 ≤ a ∧ a ≤ 5
  · have hc : a = 1 ∨ a = 2 ∨ a = 3 ∨ a = 4 ∨ a = 5 := by omega
    rcases hc with rfl | rfl | rfl | rfl | rfl <;> decide +kernel
  · have e : spec_l01In.f a 1 5 = some false := by
      unfold spec_l01In.f
      by_cases h1 : a ≥ 1
      · rw [if_pos h1, decide_eq_false (by omega)]
      · rw [if_neg h1]
    have h1 : ¬ a = 1 := by omega
    have h2 : ¬ a = 2 := by omega
    have h3 : ¬ a = 3 := by omega
    have h4 : ¬ a = 4 := by omega
    have h5 : ¬ a = 5 := by omega
    unfold spec_NeedOf.f needI
    rw [Option.bind_some, e]
    simp [h1, h2, h3, h4, h5]
theorem impl_need (k : Nat) (a : Int) : impl_NeedOf.f (k + 1) a = some (needI a) := by
  unfold impl_NeedOf.f needI
  by_cases h1 : a = 1
  · subst h1
    simp [impl_NeedOf.j0]
  · rw [if_neg h1, if_neg h1]
    by_cases h2 : a = 2
    · subst h2
      simp [impl_NeedOf.j0]
    · have e : (a == 2) = false := beq_eq_false_iff_ne.mpr h2
      simp only [impl_NeedOf.j0, e, if_neg h2, Bool.false_eq_true, if_false]
      repeat (first | rfl | split)

/-- The verbs gone through: how many points they take together; none where one is wrong. -/
def scanV : List Int → Bool → Int → Option Int
  | [], _, m => some m
  | v :: vs, b, m => if needI v < 0 then none else if b = true ∧ v ≠ 1 then none else scanV vs (v == 5) (m + needI v)
def pathB (v : List Int) (p : List S55) : Bool :=
  if p.length > 24 ∨ v.length > 24 then false else p.all okP && (match scanV v true 0 with | none => false | some m => m == (p.length : Int))
def beginsAt (v : List Int) (i : Nat) : Bool := if i = 0 then true else v[i - 1]?.getD 0 == 5
theorem spec_points_loop (v : List Int) (p : List S55) (m : Int) (hl : p.length ≤ 24) (d : Nat) : ∀ (k i : Nat), p.length - i = d → i ≤ p.length → d < k → spec_PathOk.l1 k m (i : Int) v p = some ((p.drop i).all okP && (m == (p.length : Int))) := by
  induction d with
  | zero =>
    intro k i hd hi hk
    obtain ⟨k, rfl⟩ : ∃ m, k = m + 1 := ⟨k - 1, by omega⟩
    simp only [spec_PathOk.l1]
    rw [if_neg (by omega), List.drop_of_length_le (by omega)]
    simp
  | succ d ih =>
    intro k i hd hi hk
    obtain ⟨k, rfl⟩ : ∃ m, k = m + 1 := ⟨k - 1, by omega⟩
    simp only [spec_PathOk.l1]
    have hlt : i < p.length := by omega
    have c1 : (i : Int) < (p.length : Int) := by omega
    have c2 : (0 : Int) ≤ (i : Int) := by omega
    rw [if_pos c1, if_pos c2, spec_pointOk, rdP p i hlt, w64 (n := (i : Int) + 1) (by omega) (by omega), show (i : Int) + 1 = ((i + 1 : Nat) : Int) by omega, ih k (i + 1) (by omega) (by omega) (by omega), List.drop_eq_getElem_cons hlt]
    simp only [Option.bind_some, List.all_cons, okP]
    cases farB p[i].f0 <;> cases farB p[i].f1 <;> simp
theorem verbs_loop (v : List Int) (p : List S55) (hv : v.length ≤ 24) (hp : p.length ≤ 24) (d : Nat) : ∀ (k i : Nat) (m : Int), v.length - i = d → i ≤ v.length → 0 ≤ m → m ≤ 3 * (i : Int) → d + 30 < k →
    spec_PathOk.l0 k m (i : Int) v p = some (match scanV (v.drop i) (beginsAt v i) m with | none => false | some m => p.all okP && (m == (p.length : Int))) ∧
    impl_PathOk.l0 k m v (v.length : Int) (i : Int) v p = some (match scanV (v.drop i) (beginsAt v i) m with | none => false | some m => m == (p.length : Int)) := by
  induction d with
  | zero =>
    intro k i m hd hi h0 h1 hk
    obtain ⟨k, rfl⟩ : ∃ m, k = m + 1 := ⟨k - 1, by omega⟩
    simp only [spec_PathOk.l0, impl_PathOk.l0]
    rw [if_neg (by omega), if_neg (by omega), List.drop_of_length_le (by omega), show (0 : Int) = ((0 : Nat) : Int) from rfl, spec_points_loop v p m hp p.length k 0 (by omega) (by omega) (by omega)]
    simp [scanV]
  | succ d ih =>
    intro k i m hd hi h0 h1 hk
    obtain ⟨k, rfl⟩ : ∃ m, k = m + 2 := ⟨k - 2, by omega⟩
    rw [spec_PathOk.l0, impl_PathOk.l0]
    have hlt : i < v.length := by omega
    have c1 : (i : Int) < (v.length : Int) := by omega
    have c2 : (0 : Int) ≤ (i : Int) := by omega
    have hn := needI_in v[i]
    rw [if_pos c1, if_pos c2, if_pos c1, if_pos c2, if_pos c1, rdI v i hlt, spec_need, Option.bind_some, impl_need, Option.bind_some, List.drop_eq_getElem_cons hlt]
    simp only [scanV]
    have hw : wrap64 ((i : Int) + 1) = ((i + 1 : Nat) : Int) := by rw [w64 (by omega) (by omega)]; omega
    have hm : wrap64 (m + needI v[i]) = m + needI v[i] := w64 (by omega) (by omega)
    rw [hw, hm]
    have hb : beginsAt v (i + 1) = (v[i] == 5) := by
      unfold beginsAt
      rw [if_neg (by omega), Nat.add_sub_cancel, List.getElem?_eq_getElem hlt]
      rfl
    by_cases hneg : needI v[i] < 0
    · simp only [if_pos hneg]
      by_cases hi0 : (i : Int) = 0
      · rw [if_pos hi0]
        exact ⟨trivial, rfl⟩
      · have e1 : wrap64 ((i : Int) - 1) = ((i - 1 : Nat) : Int) := by rw [w64 (by omega) (by omega)]; omega
        rw [if_neg hi0, e1, if_pos (show (0 : Int) ≤ ((i - 1 : Nat) : Int) by omega), if_pos (show ((i - 1 : Nat) : Int) < (v.length : Int) by omega)]
        exact ⟨trivial, rfl⟩
    · have ⟨g1, g2⟩ := ih (k + 1) (i + 1) (m + needI v[i]) (by omega) (by omega) (by omega) (by omega) (by omega)
      rw [hb] at g1 g2
      simp only [if_neg hneg]
      by_cases hi0 : (i : Int) = 0
      · have hbi : beginsAt v i = true := by
          unfold beginsAt
          rw [if_pos (by omega)]
        rw [if_pos hi0, if_pos hi0, hbi]
        by_cases h1v : v[i] = 1
        · rw [if_pos h1v, if_pos h1v, if_neg (by simp [h1v])]
          exact ⟨g1, g2⟩
        · rw [if_neg h1v, if_neg h1v, if_pos (by simp [h1v])]
          exact ⟨rfl, rfl⟩
      · have e1 : wrap64 ((i : Int) - 1) = ((i - 1 : Nat) : Int) := by rw [w64 (by omega) (by omega)]; omega
        have c5 : (0 : Int) ≤ ((i - 1 : Nat) : Int) := by omega
        have c6 : ((i - 1 : Nat) : Int) < (v.length : Int) := by omega
        have hbi : beginsAt v i = (v[i - 1] == 5) := by
          unfold beginsAt
          rw [if_neg (by omega), List.getElem?_eq_getElem (by omega)]
          rfl
        rw [if_neg hi0, if_neg hi0, e1, if_pos c5, if_pos c6, if_pos c5, if_pos c6, rdI v (i - 1) (by omega), hbi]
        by_cases h5 : v[i - 1] = 5
        · rw [if_pos h5, if_pos h5]
          by_cases h1v : v[i] = 1
          · rw [if_pos h1v, if_pos h1v, if_neg (by simp [h1v])]
            exact ⟨g1, g2⟩
          · rw [if_neg h1v, if_neg h1v, if_pos (by simp [h1v, h5])]
            exact ⟨rfl, rfl⟩
        · rw [if_neg h5, if_neg h5, if_neg (by simp [h5])]
          exact ⟨g1, g2⟩
theorem spec_path (v : List Int) (p : List S55) (k : Nat) (hk : 60 < k) : spec_PathOk.f k v p = some (pathB v p) := by
  obtain ⟨k, rfl⟩ : ∃ m, k = m + 1 := ⟨k - 1, by omega⟩
  unfold spec_PathOk.f pathB
  by_cases h1 : (p.length : Int) > 24
  · rw [if_pos h1, if_pos (.inl (by omega))]
    simp [spec_PathOk.j0]
  · rw [if_neg h1]
    by_cases h2 : (v.length : Int) > 24
    · rw [decide_eq_true h2, if_pos (.inr (by omega))]
      simp [spec_PathOk.j0]
    · rw [decide_eq_false h2, if_neg (by omega)]
      have := (verbs_loop v p (by omega) (by omega) v.length k 0 0 (by omega) (by omega) (by omega) (by omega) (by omega)).1
      simp only [spec_PathOk.j0, Bool.false_eq_true, if_false]
      rw [show ((0 : Nat) : Int) = 0 from rfl] at this
      rw [this, List.drop_zero]
      have hb : beginsAt v 0 = true := rfl
      rw [hb]
      cases scanV v true 0 <;> simp
theorem impl_path (v : List Int) (p : List S55) (k : Nat) (hk : 60 < k) : impl_PathOk.f k v p = some (pathB v p) := by
  obtain ⟨k, rfl⟩ : ∃ m, k = m + 1 := ⟨k - 1, by omega⟩
  unfold impl_PathOk.f pathB
  by_cases h1 : (p.length : Int) > 24
  · rw [if_pos h1, if_pos (.inl (by omega))]
    simp [impl_PathOk.j0]
  · rw [if_neg h1]
    by_cases h2 : (v.length : Int) > 24
    · rw [if_pos h2, if_pos (.inr (by omega))]
      simp [impl_PathOk.j0]
    · rw [if_neg h2, if_neg (by omega), points_ok p (by omega) _ (by omega)]
      simp only [Option.bind_some, impl_PathOk.j0]
      cases hp : p.all okP
      · simp
      · have := (verbs_loop v p (by omega) (by omega) v.length k 0 0 (by omega) (by omega) (by omega) (by omega) (by omega)).2
        rw [show ((0 : Nat) : Int) = 0 from rfl] at this
        simp only [Bool.not_true, Bool.false_eq_true, if_false]
        rw [this, List.drop_zero]
        have hb : beginsAt v 0 = true := rfl
        rw [hb]
        cases scanV v true 0 <;> simp

theorem eqInts_loop (l : List Int) (hl : l.length ≤ 9223372036854775806) (d : Nat) : ∀ (k i : Nat), l.length - i = d → i ≤ l.length → d < k → laws_eqIntS.l0 k l l (i : Int) = some true := by
  induction d with
  | zero =>
    intro k i hd hi hk
    obtain ⟨k, rfl⟩ : ∃ m, k = m + 1 := ⟨k - 1, by omega⟩
    simp only [laws_eqIntS.l0]
    rw [if_neg (by omega)]
  | succ d ih =>
    intro k i hd hi hk
    obtain ⟨k, rfl⟩ : ∃ m, k = m + 1 := ⟨k - 1, by omega⟩
    simp only [laws_eqIntS.l0]
    have c1 : (i : Int) < (l.length : Int) := by omega
    have c2 : (0 : Int) ≤ (i : Int) := by omega
    rw [if_pos c1, if_pos c2, if_pos c1, if_pos trivial, w64 (n := (i : Int) + 1) (by omega) (by omega), show (i : Int) + 1 = ((i + 1 : Nat) : Int) by omega]
    exact ih k (i + 1) (by omega) (by omega) (by omega)
theorem eqInts_self (l : List Int) (hl : l.length ≤ 9223372036854775806) (k : Nat) (hk : l.length < k) : laws_eqIntS.f k l l = some true := by
  unfold laws_eqIntS.f
  rw [if_pos rfl]
  exact eqInts_loop l hl l.length k 0 (by omega) (by omega) hk

theorem eqPoints_loop (l : List S55) (hl : l.length ≤ 9223372036854775806) (d : Nat) : ∀ (k i : Nat), l.length - i = d → i ≤ l.length → d < k → laws_eqPointS.l0 k l l (i : Int) = some true := by
  induction d with
  | zero =>
    intro k i hd hi hk
    obtain ⟨k, rfl⟩ : ∃ m, k = m + 1 := ⟨k - 1, by omega⟩
    simp only [laws_eqPointS.l0]
    rw [if_neg (by omega)]
  | succ d ih =>
    intro k i hd hi hk
    obtain ⟨k, rfl⟩ : ∃ m, k = m + 1 := ⟨k - 1, by omega⟩
    simp only [laws_eqPointS.l0]
    have c1 : (i : Int) < (l.length : Int) := by omega
    have c2 : (0 : Int) ≤ (i : Int) := by omega
    have e : ∀ a b : Int, laws_eqPoint.f a b a b = some true := fun a b => by unfold laws_eqPoint.f; simp
    rw [if_pos c1, if_pos c2, if_pos c1, e, Option.bind_some, if_pos rfl, w64 (n := (i : Int) + 1) (by omega) (by omega), show (i : Int) + 1 = ((i + 1 : Nat) : Int) by omega]
    exact ih k (i + 1) (by omega) (by omega) (by omega)
theorem eqPoints_self (l : List S55) (hl : l.length ≤ 9223372036854775806) (k : Nat) (hk : l.length < k) : laws_eqPointS.f k l l = some true := by
  unfold laws_eqPointS.f
  rw [if_pos rfl]
  exact eqPoints_loop l hl l.length k 0 (by omega) (by omega) hk

theorem eqPath_self (v : List Int) (p : List S55) (hv : v.length ≤ 9223372036854775806) (hp : p.length ≤ 9223372036854775806) (k : Nat) (h1 : v.length < k) (h2 : p.length < k) : laws_eqPath.f k v p v p = some true := by
  unfold laws_eqPath.f
  rw [eqInts_self v hv k h1, eqPoints_self p hp k h2]
  rfl

def cv (p : S78) : S55 := ⟨p.f0, p.f1⟩
theorem rdL (l : List S78) (i : Nat) (h : i < l.length) : rd_T78 l (i : Int) = l[i] := by
  unfold rd_T78
  rw [show ((i : Int)).toNat = i by omega, List.getD_eq_getElem?_getD, List.getElem?_eq_getElem h]
  rfl
theorem toPoints_loop (l : List S78) (hl : l.length ≤ 1048576) (d : Nat) : ∀ (k i : Nat) (acc : List S55), l.length - i = d → i ≤ l.length → acc.length = l.length → (∀ j, j < i → acc[j]? = (l.map cv)[j]?) → d < k →
    laws_toPointS.l0 k l acc (i : Int) = some (l.map cv) := by
  induction d with
  | zero =>
    intro k i acc hd hi ha hj hk
    obtain ⟨k, rfl⟩ : ∃ m, k = m + 1 := ⟨k - 1, by omega⟩
    simp only [laws_toPointS.l0]
    rw [if_neg (by omega)]
    congr 1
    apply List.ext_getElem?
    intro j
    by_cases h : j < i
    · exact hj j h
    · rw [List.getElem?_eq_none (by omega), List.getElem?_eq_none (by simp; omega)]
  | succ d ih =>
    intro k i acc hd hi ha hj hk
    obtain ⟨k, rfl⟩ : ∃ m, k = m + 1 := ⟨k - 1, by omega⟩
    simp only [laws_toPointS.l0]
    have hlt : i < l.length := by omega
    have c1 : (i : Int) < (l.length : Int) := by omega
    have c2 : (0 : Int) ≤ (i : Int) := by omega
    have c3 : (i : Int) < (acc.length : Int) := by omega
    unfold laws_toPoint.f
    rw [if_pos c1, if_pos c2, Option.bind_some, if_pos c3, rdL l i hlt, w64 (n := (i : Int) + 1) (by omega) (by omega), show (i : Int) + 1 = ((i + 1 : Nat) : Int) by omega, show ((i : Int)).toNat = i by omega]
    refine ih k (i + 1) _ (by omega) (by omega) (by simp [ha]) (fun j hj1 => ?_) (by omega)
    rw [List.getElem?_set]
    by_cases h : i = j
    · subst h
      rw [if_pos rfl, if_pos (by omega), List.getElem?_map, List.getElem?_eq_getElem hlt]
      rfl
    · rw [if_neg h]
      exact hj j (by omega)
theorem toPoints (l : List S78) (hl : l.length ≤ 1048576) (k : Nat) (hk : l.length < k) : laws_toPointS.f k l = some (l.map cv) := by
  unfold laws_toPointS.f
  rw [if_pos (by omega), if_pos (by omega), Int.toNat_natCast]
  exact toPoints_loop l hl l.length k 0 _ (by omega) (by omega) (by simp) (fun j hj => absurd hj (by omega)) hk

theorem toInts_loop (l : List Int) (hl : l.length ≤ 1048576) (d : Nat) : ∀ (k i : Nat) (acc : List Int), l.length - i = d → i ≤ l.length → acc.length = l.length → (∀ j, j < i → acc[j]? = l[j]?) → d < k →
    laws_toIntS.l0 k l acc (i : Int) = some l := by
  induction d with
  | zero =>
    intro k i acc hd hi ha hj hk
    obtain ⟨k, rfl⟩ : ∃ m, k = m + 1 := ⟨k - 1, by omega⟩
    simp only [laws_toIntS.l0]
    rw [if_neg (by omega)]
    congr 1
    apply List.ext_getElem?
    intro j
    by_cases h : j < i
    · exact hj j h
    · rw [List.getElem?_eq_none (by omega), List.getElem?_eq_none (by omega)]
  | succ d ih =>
    intro k i acc hd hi ha hj hk
    obtain ⟨k, rfl⟩ : ∃ m, k = m + 1 := ⟨k - 1, by omega⟩
    simp only [laws_toIntS.l0]
    have hlt : i < l.length := by omega
    have c1 : (i : Int) < (l.length : Int) := by omega
    have c2 : (0 : Int) ≤ (i : Int) := by omega
    have c3 : (i : Int) < (acc.length : Int) := by omega
    rw [if_pos c1, if_pos c2, if_pos c3, rdI l i hlt, w64 (n := (i : Int) + 1) (by omega) (by omega), show (i : Int) + 1 = ((i + 1 : Nat) : Int) by omega, show ((i : Int)).toNat = i by omega]
    refine ih k (i + 1) _ (by omega) (by omega) (by simp [ha]) (fun j hj1 => ?_) (by omega)
    rw [List.getElem?_set]
    by_cases h : i = j
    · subst h
      rw [if_pos rfl, if_pos (by omega), List.getElem?_eq_getElem hlt]
    · rw [if_neg h]
      exact hj j (by omega)
theorem toInts (l : List Int) (hl : l.length ≤ 1048576) (k : Nat) (hk : l.length < k) : laws_toIntS.f k l = some l := by
  unfold laws_toIntS.f
  rw [if_pos (by omega), if_pos (by omega), Int.toNat_natCast]
  exact toInts_loop l hl l.length k 0 _ (by omega) (by omega) (by simp) (fun j hj => absurd hj (by omega)) hk
theorem toPath (v : List Int) (p : List S78) (hv : v.length ≤ 1048576) (hp : p.length ≤ 1048576) (k : Nat) (h1 : v.length < k) (h2 : p.length < k) : laws_toPath.f k v p = some (v, p.map cv) := by
  unfold laws_toPath.f
  rw [toInts v hv k h1, Option.bind_some, toPoints p hp k h2]
  rfl
theorem szPath (v : List Int) (p : List S78) (hv : v.length ≤ 9223372036854775807) (hp : p.length ≤ 9223372036854775807) :
    ∃ r : Int, laws_szPath.f v p 1048576 = some r ∧ (0 ≤ r → v.length ≤ 1048576 ∧ p.length ≤ 1048576) := by
  unfold laws_szPath.f laws_szIntS.f laws_szPointS.f
  rw [w64 (n := 1048576 - (v.length : Int)) (by omega) (by omega)]
  by_cases h : 1048576 - (v.length : Int) < 0
  · rw [if_pos h]
    exact ⟨-1, rfl, fun h => absurd h (by decide)⟩
  · rw [if_neg h, Option.bind_some, if_neg h, w64 (n := 1048576 - (v.length : Int) - (p.length : Int)) (by omega) (by omega)]
    by_cases g : 1048576 - (v.length : Int) - (p.length : Int) < 0
    · rw [if_pos g]
      exact ⟨-1, rfl, fun h => absurd h (by decide)⟩
    · rw [if_neg g, Option.bind_some, if_neg g]
      exact ⟨_, rfl, fun _ => by omega⟩

/-! ### words with one blank between -/
def J (L : List (List UInt8)) : List UInt8 := Lib.join L [32]
theorem J_nil : J [] = [] := rfl
theorem J_one (x : List UInt8) : J [x] = x := Lib.join_one x [32]
theorem J_cons (x : List UInt8) (r : List (List UInt8)) : J (x :: r) = x ++ (r.map fun y => 32 :: y).flatten := by
  unfold J
  rw [Lib.join_cons]
  rfl
theorem J_snoc (L : List (List UInt8)) (x : List UInt8) (h : L ≠ []) : J (L ++ [x]) = J L ++ 32 :: x := by
  cases L with
  | nil => exact absurd rfl h
  | cons y r =>
    rw [List.cons_append, J_cons, J_cons]
    simp
theorem J_cons2 (x y : List UInt8) (r : List (List UInt8)) : J (x :: y :: r) = x ++ 32 :: J (y :: r) := by
  rw [J_cons, J_cons]
  simp
theorem J_length (x : List UInt8) (r : List (List UInt8)) : (J (x :: r)).length = r.length + Lib.lens (x :: r) := by
  unfold J
  rw [Lib.join_length]
  simp
/-! ### a text parted at its blanks -/
def parts : List UInt8 → List (List UInt8)
  | [] => [[]]
  | b :: l => if b = 32 then [] :: parts l else (b :: (parts l).headD []) :: (parts l).tail
theorem parts_ne (l : List UInt8) : parts l ≠ [] := by
  cases l with
  | nil => simp [parts]
  | cons b l =>
    unfold parts
    split <;> simp
theorem J_parts (l : List UInt8) : J (parts l) = l := by
  induction l with
  | nil => rfl
  | cons b l ih =>
    have hn := parts_ne l
    unfold parts
    obtain ⟨x, r, e⟩ : ∃ x r, parts l = x :: r := by
      cases h : parts l with
      | nil => exact absurd h hn
      | cons x r => exact ⟨x, r, rfl⟩
    rw [e] at ih ⊢
    split
    · rename_i hb
      subst hb
      rw [J_cons2, ih]
      rfl
    · rw [List.headD_cons, List.tail_cons, J_cons]
      rw [J_cons] at ih
      rw [List.cons_append, ih]
theorem parts_no (l : List UInt8) : ∀ x ∈ parts l, ∀ b ∈ x, b ≠ 32 := by
  induction l with
  | nil => simp [parts]
  | cons c l ih =>
    unfold parts
    split
    · intro x hx
      rcases List.mem_cons.1 hx with rfl | hx
      · simp
      · exact ih x hx
    · rename_i hc
      intro x hx
      have hn := parts_ne l
      obtain ⟨y, r, e⟩ : ∃ x r, parts l = x :: r := by
        cases h : parts l with
        | nil => exact absurd h hn
        | cons x r => exact ⟨x, r, rfl⟩
      rw [e] at hx ih
      rcases List.mem_cons.1 hx with rfl | hx
      · intro b hb
        rcases List.mem_cons.1 hb with rfl | hb
        · exact hc
        · exact ih y List.mem_cons_self b hb
      · exact ih x (List.mem_cons_of_mem _ hx)
theorem parts_word (x : List UInt8) (hx : ∀ b ∈ x, b ≠ 32) : parts x = [x] := by
  induction x with
  | nil => rfl
  | cons b x ih =>
    unfold parts
    rw [if_neg (hx b List.mem_cons_self), ih (fun c hc => hx c (List.mem_cons_of_mem _ hc))]
    rfl
theorem parts_app (x : List UInt8) (hx : ∀ b ∈ x, b ≠ 32) (l : List UInt8) : parts (x ++ 32 :: l) = x :: parts l := by
  induction x with
  | nil => simp [parts]
  | cons b x ih =>
    rw [List.cons_append, parts, if_neg (hx b List.mem_cons_self), ih (fun c hc => hx c (List.mem_cons_of_mem _ hc))]
    rfl
/-- The words come back. -/
theorem parts_J (L : List (List UInt8)) (hL : L ≠ []) (h : ∀ x ∈ L, ∀ b ∈ x, b ≠ 32) : parts (J L) = L := by
  induction L with
  | nil => exact absurd rfl hL
  | cons x r ih =>
    cases r with
    | nil => rw [J_one, parts_word x (h x List.mem_cons_self)]
    | cons y r => rw [J_cons2, parts_app x (h x List.mem_cons_self), ih (by simp) (fun z hz => h z (List.mem_cons_of_mem _ hz))]
/-! ### the library's own -/
theorem first_blank (s : List UInt8) : (∀ b ∈ s, b ≠ 32) ∨ ∃ x l, s = x ++ 32 :: l ∧ ∀ b ∈ x, b ≠ 32 := by
  induction s with
  | nil => exact .inl (by simp)
  | cons b s ih =>
    by_cases hb : b = 32
    · subst hb
      exact .inr ⟨[], s, rfl, by simp⟩
    · rcases ih with h | ⟨x, l, rfl, h⟩
      · exact .inl (fun c hc => by
          rcases List.mem_cons.1 hc with rfl | hc
          · exact hb
          · exact h c hc)
      · exact .inr ⟨b :: x, l, rfl, fun c hc => by
          rcases List.mem_cons.1 hc with rfl | hc
          · exact hb
          · exact h c hc⟩
theorem index_at (x l : List UInt8) (h : ∀ b ∈ x, b ≠ 32) : Lib.index (x ++ 32 :: l) [32] = (x.length : Int) := by
  rw [Lib.index_one]
  induction x with
  | nil => simp [Lib.indexByte]
  | cons b x ih =>
    have ih := ih (fun c hc => h c (List.mem_cons_of_mem _ hc))
    rw [List.cons_append, Lib.indexByte, ih]
    have hb : b ≠ 32 := h b List.mem_cons_self
    simp [hb]
theorem split_parts (s : List UInt8) : Lib.split s [32] = parts s := by
  have key : ∀ (n : Nat) (s : List UInt8), s.length = n → Lib.split s [32] = parts s := by
    intro n
    induction n using Nat.strongRecOn with
    | ind n ih =>
      intro s hn
      rcases first_blank s with h | ⟨x, l, rfl, h⟩
      · rw [parts_word s h]
        have hc : Lib.count s [32] = 0 := by
          rw [Lib.count_one, List.count_eq_zero]
          exact fun hm => h 32 hm rfl
        unfold Lib.split
        rw [hc]
        rfl
      · have hix := index_at x l h
        have hd : (x ++ 32 :: l).drop (x.length + 1) = l := by
          rw [← List.drop_drop, List.drop_left]
          rfl
        have hc : Lib.count (x ++ 32 :: l) [32] = Lib.count l [32] + 1 := by
          rw [Lib.count_hit (by simp) hix, List.length_singleton, hd, Nat.add_comm]
        have ih := ih l.length (by rw [← hn, List.length_append, List.length_cons]; omega) l rfl
        unfold Lib.split at ih ⊢
        rw [parts_app x h, hc, Lib.splitK, hix, if_neg (by simp), ← ih]
        simp
  exact key s.length s rfl
/-- strings.Split at a blank. -/
theorem splitB_parts (s : ByteArray) : (Lib.splitB ⟨#[32]⟩ 0 (Lib.countB s ⟨#[32]⟩) s).map (·.data.toList) = parts s.data.toList := by
  rw [Lib.splitB_data]
  exact split_parts s.data.toList

/-- A text of bytes. -/
def mk (l : List UInt8) : ByteArray := ⟨l.toArray⟩
theorem mk_data (l : List UInt8) : (mk l).data.toList = l := rfl
theorem mk_toList (l : List UInt8) : (mk l).toList = l := Lib.toList_data _
theorem mk_size (l : List UInt8) : (mk l).size = l.length := Lib.size_eq _
theorem mk_of (s : ByteArray) : mk s.data.toList = s := Lib.mk_data s
theorem mk_extract (s : ByteArray) (b i : Nat) : s.extract b i = mk ((s.data.toList.drop b).take (i - b)) := by
  rw [← mk_of (s.extract b i), Lib.extract_data]
theorem mk_inj {x y : List UInt8} (h : mk x = mk y) : x = y := by
  have := congrArg (fun s : ByteArray => s.data.toList) h
  exact this
theorem data_inj {x y : ByteArray} (h : x.data.toList = y.data.toList) : x = y := by
  rw [← mk_of x, ← mk_of y, h]
theorem bt_list (s : ByteArray) (i : Nat) (h : i < s.data.toList.length) : bt s (i : Int) = ((s.data.toList[i]).toNat : Int) := by
  have hs : i < s.size := by rw [Lib.size_eq]; exact h
  rw [bt_at' s i hs, Array.getElem_toList]
  rfl
theorem split_mk (s : ByteArray) : Lib.splitB ⟨#[32]⟩ 0 (Lib.countB s ⟨#[32]⟩) s = (parts s.data.toList).map mk := by
  rw [← splitB_parts, List.map_map, show (mk ∘ fun x : ByteArray => x.data.toList) = id from funext fun x => mk_of x, List.map_id]
theorem parts_length (l : List UInt8) : (parts l).length ≤ l.length + 1 := by
  induction l with
  | nil => simp [parts]
  | cons b l ih =>
    have hn := parts_ne l
    unfold parts
    split
    · simp only [List.length_cons]; omega
    · simp only [List.length_cons, List.length_tail]; omega

theorem figure_val {d : Int} (h0 : 0 ≤ d) (h1 : d < 10) : spec_l01Figure.f d = some (48 + d) := by
  unfold spec_l01Figure.f
  rw [if_pos h1, w64 (n := 48 + d) (by omega) (by omega)]
  congr 1
  omega
/-- The digits; none of 0. -/
def dd (u : Nat) : List UInt8 := if u = 0 then [] else Lib.decDigits u
theorem dd_step {u : Nat} (h : u ≠ 0) : dd u = dd (u / 10) ++ [UInt8.ofNat (48 + u % 10)] := by
  unfold dd
  rw [if_neg h]
  by_cases h1 : u < 10
  · rw [if_pos (by omega), Lib.decDigits, dif_pos h1, Nat.mod_eq_of_lt h1]
    rfl
  · rw [if_neg (by omega), Lib.decDigits, dif_neg h1]
theorem one_data (d : Int) (h0 : 0 ≤ d) : (strOfNums [48 + d]).data.toList = [UInt8.ofNat (48 + d.toNat)] := by
  rw [strOfNums_data]
  simp only [List.map_cons, List.map_nil]
  congr 2
  omega
theorem dec_loop (b : Bool) (k : Nat) : ∀ (x : Int) (acc : ByteArray), x.natAbs < 10 ^ k → x.natAbs ≤ 9223372036854775808 → k ≤ 20 → acc.size + k ≤ 40 →
    ∃ r : ByteArray, spec_Decimal.l0 (k + 1) x b acc = some r ∧ r.data.toList = (if b = true then [45] else []) ++ dd x.natAbs ++ acc.data.toList := by
  induction k with
  | zero =>
    intro x acc hx hx2 hk ha
    have e : x = 0 := by omega
    subst e
    rw [spec_Decimal.l0, if_pos rfl]
    cases b
    · rw [if_neg (by decide)]
      exact ⟨_, rfl, by simp [dd]⟩
    · rw [if_pos rfl, if_pos (by omega)]
      exact ⟨_, rfl, by rw [ByteArray.data_append, Array.toList_append]; simp [dd]⟩
  | succ k ih =>
    intro x acc hx hx2 hk ha
    rw [spec_Decimal.l0]
    by_cases h0 : x = 0
    · subst h0
      rw [if_pos rfl]
      cases b
      · rw [if_neg (by decide)]
        exact ⟨_, rfl, by simp [dd]⟩
      · rw [if_pos rfl, if_pos (by omega)]
        exact ⟨_, rfl, by rw [ByteArray.data_append, Array.toList_append]; simp [dd]⟩
    · rw [if_neg h0]
      have hp : (10 : Nat) ^ (k + 1) = 10 ^ k * 10 := Nat.pow_succ 10 k
      have hq : x.natAbs / 10 < 10 ^ k := by omega
      have hk2 : (10 : Nat) ^ (k + 1) ≤ 10 ^ 20 := Nat.pow_le_pow_right (by decide) hk
      have key : ∃ d : Nat, d < 10 ∧ d = x.natAbs % 10 ∧ (Int.tmod x 10 = (d : Int) ∨ Int.tmod x 10 = -(d : Int)) ∧ (Int.tdiv x 10).natAbs = x.natAbs / 10 := by
        refine ⟨x.natAbs % 10, by omega, rfl, ?_, by rw [Int.natAbs_tdiv]; rfl⟩
        rcases Int.natAbs_eq x with h | h
        · left
          rw [h, tmod_pos (by omega)]
          omega
        · right
          rw [h, Int.neg_tmod, tmod_pos (by omega)]
          omega
      obtain ⟨d, hd, hd2, hm, hdiv⟩ := key
      have hw : wrap64 (Int.tdiv x 10) = Int.tdiv x 10 := w64 (by omega) (by omega)
      have fin : ∀ r : ByteArray, r.data.toList = (if b = true then [45] else []) ++ dd (Int.tdiv x 10).natAbs ++ (strOfNums [48 + (d : Int)] ++ acc).data.toList → r.data.toList = (if b = true then [45] else []) ++ dd x.natAbs ++ acc.data.toList := by
        intro r hr
        rw [hr, hdiv, dd_step (u := x.natAbs) (by omega), ByteArray.data_append, Array.toList_append, one_data _ (by omega), ← hd2]
        simp
      obtain ⟨r, e, hr⟩ := ih (Int.tdiv x 10) (strOfNums [48 + (d : Int)] ++ acc) (by omega) (by omega) (by omega) (by rw [ByteArray.size_append, str_size]; simp; omega)
      have hs : (strOfNums [48 + (d : Int)]).size + acc.size ≤ 9223372036854775807 := by rw [str_size]; simp; omega
      by_cases hneg : Int.tmod x 10 < 0
      · rw [if_pos hneg]
        have e1 : wrap64 (-(Int.tmod x 10)) = (d : Int) := by rw [w64 (by omega) (by omega)]; omega
        rw [e1, figure_val (by omega) (by omega), Option.bind_some, Option.bind_some, if_pos hs, hw, e]
        exact ⟨r, rfl, fin r hr⟩
      · rw [if_neg hneg]
        have e1 : Int.tmod x 10 = (d : Int) := by omega
        rw [e1, figure_val (by omega) (by omega), Option.bind_some, Option.bind_some, if_pos hs, hw, e]
        exact ⟨r, rfl, fin r hr⟩
theorem spec_dec (n : Int) (h0 : -9223372036854775808 ≤ n) (h1 : n ≤ 9223372036854775807) : ∃ r : ByteArray, spec_Decimal.f 21 n = some r ∧ r.data.toList = Lib.itoa n := by
  unfold spec_Decimal.f Lib.itoa
  by_cases hz : n = 0
  · subst hz
    rw [if_pos rfl, if_neg (by decide)]
    exact ⟨_, rfl, by rw [Lib.decDigits, dif_pos (by decide)]; rfl⟩
  · rw [if_neg hz]
    obtain ⟨r, e, hr⟩ := dec_loop (decide (n < 0)) 20 n ⟨#[]⟩ (by have : (10 : Nat) ^ 20 = 100000000000000000000 := rfl; omega) (by omega) (by omega) (by simp [ByteArray.size])
    refine ⟨r, e, ?_⟩
    have h2 : dd n.natAbs = Lib.decDigits n.natAbs := if_neg (by omega)
    rw [hr, h2]
    by_cases hn : n < 0
    · rw [if_pos hn, decide_eq_true hn, if_pos rfl]
      simp
    · rw [if_neg hn, decide_eq_false hn, if_neg (by decide), show n.natAbs = n.toNat by omega]
      simp
theorem impl_dec (n : Int) (h0 : -9223372036854775808 ≤ n) (h1 : n ≤ 9223372036854775807) : impl_Decimal.f n = some ⟨(Lib.itoa n).toArray⟩ := by
  unfold impl_Decimal.f strconv_Itoa.f
  rw [if_pos h0, if_pos h1]
  rfl

/-! ### the words of a path -/
def letterB (a : Int) : UInt8 := if a = 1 then 77 else if a = 2 then 76 else if a = 3 then 81 else if a = 4 then 67 else 90
def pairW (q : S55) : List (List UInt8) := [Lib.itoa q.f0, Lib.itoa q.f1]
def pathW : List Int → List S55 → List (List UInt8)
  | [], _ => []
  | v :: vs, p => [letterB v] :: ((p.take (needI v).toNat).flatMap pairW ++ pathW vs (p.drop (needI v).toNat))
def needs (v : List Int) : Nat := (v.map fun a => (needI a).toNat).sum
def pathT (v : List Int) (p : List S55) : List UInt8 := J (pathW v p)
theorem needs_cons (a : Int) (v : List Int) : needs (a :: v) = (needI a).toNat + needs v := by simp [needs]
theorem scan_facts : ∀ (v : List Int) (b : Bool) (m r : Int), scanV v b m = some r → (∀ a ∈ v, 0 ≤ needI a) ∧ r = m + (needs v : Int)
  | [], _, m, r, h => by
    have h : some m = some r := h
    injection h with h
    exact ⟨by simp, by simp [needs, h]⟩
  | a :: v, b, m, r, h => by
    unfold scanV at h
    by_cases h1 : needI a < 0
    · rw [if_pos h1] at h; cases h
    · rw [if_neg h1] at h
      split at h
      · cases h
      · obtain ⟨h2, h3⟩ := scan_facts v _ _ r h
        refine ⟨fun x hx => ?_, ?_⟩
        · rcases List.mem_cons.1 hx with rfl | hx
          · omega
          · exact h2 x hx
        · rw [h3, needs_cons]; omega
theorem path_facts {v : List Int} {p : List S55} (h : pathB v p = true) : v.length ≤ 24 ∧ p.length ≤ 24 ∧ (∀ a ∈ v, 0 ≤ needI a) ∧ needs v = p.length ∧ ∀ q ∈ p, (-8388608 ≤ q.f0 ∧ q.f0 ≤ 8388608) ∧ (-8388608 ≤ q.f1 ∧ q.f1 ≤ 8388608) := by
  unfold pathB at h
  split at h
  · cases h
  · rename_i h1
    rw [Bool.and_eq_true] at h
    obtain ⟨h2, h3⟩ := h
    cases hs : scanV v true 0 with
    | none => rw [hs] at h3; cases h3
    | some m =>
      rw [hs] at h3
      obtain ⟨h4, h5⟩ := scan_facts v true 0 m hs
      have h6 : m = (p.length : Int) := by simpa using h3
      refine ⟨by omega, by omega, h4, by omega, fun q hq => ?_⟩
      have h7 := List.all_eq_true.1 h2 q hq
      unfold okP at h7
      rw [Bool.and_eq_true, farB_true, farB_true] at h7
      exact h7
theorem digits_len (u : Nat) : ∀ k, u < 10 ^ (k + 1) → (Lib.decDigits u).length ≤ k + 1 := by
  induction u using Nat.strongRecOn with
  | ind u ih =>
    intro k hk
    by_cases h : u < 10
    · rw [Lib.decDigits, dif_pos h]; simp
    · rw [Lib.decDigits, dif_neg h, List.length_append, List.length_singleton]
      cases k with
      | zero => simp at hk; omega
      | succ k =>
        have := ih (u / 10) (by omega) k (by rw [Nat.pow_succ] at hk; omega)
        omega
theorem itoa_len {x : Int} (h0 : -8388608 ≤ x) (h1 : x ≤ 8388608) : (Lib.itoa x).length ≤ 8 := by
  unfold Lib.itoa
  have h := digits_len x.natAbs 6 (by omega)
  have h' := digits_len x.toNat 6 (by omega)
  repeat (first | split | (simp only [List.length_cons]; omega) | omega | (simp; omega))
/-- Words one by one. -/
theorem rd_app (pre : List Int) (a : Int) (vs : List Int) : rd (pre ++ a :: vs) (pre.length : Int) = a := by
  rw [rdI _ _ (by simp)]
  simp
theorem rdP_app (pre : List S55) (a : S55) (vs : List S55) : rd_T55 (pre ++ a :: vs) (pre.length : Int) = a := by
  rw [rdP _ _ (by simp)]
  simp
theorem five {a : Int} (h : 0 ≤ needI a) : a = 1 ∨ a = 2 ∨ a = 3 ∨ a = 4 ∨ a = 5 := by
  have := needI_ok h
  omega

theorem impl_text_points (v : List Int) (p : List S55) (hp : p.length ≤ 24) (nv n : Int) (h0 : 0 ≤ n) (hn : n ≤ 3) : ∀ (r : Nat) (done qs rest : List S55) (k : Nat) (acc : List ByteArray) (i j : Int), p = done ++ (qs ++ rest) → qs.length = r → 0 ≤ j → j + (r : Int) = n →
    (∀ q ∈ qs, (-8388608 ≤ q.f0 ∧ q.f0 ≤ 8388608) ∧ (-8388608 ≤ q.f1 ∧ q.f1 ≤ 8388608)) → acc.length + 2 * r ≤ 1000 →
    impl_PathText.l1 (k + r + 1) acc (done.length : Int) v nv i n j v p = impl_PathText.l0 k (acc ++ (qs.flatMap pairW).map mk) ((done.length + r : Nat) : Int) v nv (wrap64 (i + 1)) v p := by
  intro r
  induction r with
  | zero =>
    intro done qs rest k acc i j he hl hj hjn _ _
    obtain rfl : qs = [] := List.eq_nil_of_length_eq_zero hl
    rw [impl_PathText.l1, if_neg (by omega)]
    simp
  | succ r ih =>
    intro done qs rest k acc i j he hl hj hjn hq ha
    cases qs with
    | nil => cases hl
    | cons q qs =>
      have hlt : done.length < p.length := by rw [he]; simp
      obtain ⟨⟨a1, a2⟩, b1, b2⟩ := hq q List.mem_cons_self
      have hr : rd_T55 p (done.length : Int) = q := by rw [he, List.cons_append]; exact rdP_app done q _
      rw [show k + (r + 1) + 1 = (k + r + 1) + 1 by omega, impl_PathText.l1, if_pos (by omega), if_pos (by omega), if_pos (by omega), hr, impl_dec _ (by omega) (by omega), impl_dec _ (by omega) (by omega), Option.bind_some, Option.bind_some, Option.bind_some,
        if_pos (by simp only [List.length_cons, List.length_nil]; omega), w64 (n := (done.length : Int) + 1) (by omega) (by omega), w64 (n := j + 1) (by omega) (by omega)]
      have h := ih (done ++ [q]) qs rest k (acc ++ [mk (Lib.itoa q.f0), mk (Lib.itoa q.f1)]) i (j + 1) (by rw [he]; simp) (by simpa using hl) (by omega) (by omega) (fun x hx => hq x (List.mem_cons_of_mem _ hx)) (by simp; omega)
      rw [List.length_append, List.length_singleton] at h
      rw [show (done.length : Int) + 1 = ((done.length + 1 : Nat) : Int) by omega]
      refine h.trans ?_
      congr 1
      · simp [pairW]
      · omega
theorem J_small (L : List (List UInt8)) (h : ∀ x ∈ L, x.length ≤ 20) : (J L).length ≤ 21 * L.length := by
  cases L with
  | nil => simp [J_nil]
  | cons x r =>
    rw [J_length]
    have hl : ∀ M : List (List UInt8), (∀ x ∈ M, x.length ≤ 20) → Lib.lens M ≤ 20 * M.length := by
      intro M
      induction M with
      | nil => intro _; simp [Lib.lens]
      | cons y M ih =>
        intro hM
        have h1 := hM y List.mem_cons_self
        have h2 := ih (fun z hz => hM z (List.mem_cons_of_mem _ hz))
        simp only [Lib.lens, List.map_cons, List.sum_cons, List.length_cons] at h2 ⊢
        omega
    have := hl (x :: r) h
    simp only [List.length_cons] at this ⊢
    omega
theorem pairs_small (qs : List S55) (h : ∀ q ∈ qs, (-8388608 ≤ q.f0 ∧ q.f0 ≤ 8388608) ∧ (-8388608 ≤ q.f1 ∧ q.f1 ≤ 8388608)) : ∀ x ∈ qs.flatMap pairW, x.length ≤ 20 := by
  intro x hx
  obtain ⟨q, hq, hx⟩ := List.mem_flatMap.1 hx
  obtain ⟨⟨a1, a2⟩, b1, b2⟩ := h q hq
  have h1 := itoa_len a1 a2
  have h2 := itoa_len b1 b2
  simp only [pairW, List.mem_cons, List.mem_nil_iff, or_false] at hx
  rcases hx with rfl | rfl <;> omega
theorem pairs_length (qs : List S55) : (qs.flatMap pairW).length = 2 * qs.length := by
  induction qs with
  | nil => rfl
  | cons q qs ih => simp only [List.flatMap_cons, List.length_append, List.length_cons, pairW, ih, List.length_nil]; omega
theorem letter_cut {a : Int} (h : 0 ≤ needI a) : (⟨#[77, 76, 81, 67, 90]⟩ : ByteArray).extract (a - 1).toNat a.toNat = mk [letterB a] := by
  rcases five h with rfl | rfl | rfl | rfl | rfl <;> decide +kernel
theorem impl_text_loop (v : List Int) (p : List S55) (hv : v.length ≤ 24) (hp : p.length ≤ 24) : ∀ (vs pre : List Int) (ps done : List S55) (k : Nat) (acc : List ByteArray), v = pre ++ vs → p = done ++ ps → (∀ a ∈ vs, 0 ≤ needI a) → needs vs = ps.length →
    (∀ q ∈ ps, (-8388608 ≤ q.f0 ∧ q.f0 ≤ 8388608) ∧ (-8388608 ≤ q.f1 ∧ q.f1 ≤ 8388608)) → acc.length ≤ pre.length + 2 * done.length → (∀ x ∈ acc, x.data.toList.length ≤ 20) → 5 * vs.length + 2 ≤ k →
    impl_PathText.l0 k acc (done.length : Int) v (v.length : Int) (pre.length : Int) v p = some (mk (J (acc.map (fun x => x.data.toList) ++ pathW vs ps)), true) := by
  intro vs
  induction vs with
  | nil =>
    intro pre ps done k acc he hpe _ _ _ hacc hsm hk
    obtain ⟨k, rfl⟩ : ∃ m, k = m + 1 := ⟨k - 1, by omega⟩
    rw [List.append_nil] at he
    subst he
    have hd : done.length ≤ 24 := by rw [hpe, List.length_append] at hp; omega
    have hj := J_small (acc.map fun x => x.data.toList) (fun x hx => by
      obtain ⟨y, hy, rfl⟩ := List.mem_map.1 hx
      exact hsm y hy)
    rw [List.length_map] at hj
    rw [impl_PathText.l0, if_neg (by omega), strings_Join.f, if_pos (by omega), if_pos (by
      show (J (acc.map fun x => x.data.toList)).length ≤ _
      omega), Option.bind_some, pathW, List.append_nil]
    rfl
  | cons a vs ih =>
    intro pre ps done k acc he hpe hn hnl hq hacc hsm hk
    have ha := hn a List.mem_cons_self
    have hf := five ha
    have hni := needI_in a
    rw [needs_cons] at hnl
    rw [List.length_cons] at hk
    have hd : done.length + ps.length ≤ 24 := by rw [hpe, List.length_append] at hp; exact hp
    have hpre : pre.length + (vs.length + 1) ≤ 24 := by rw [he, List.length_append, List.length_cons] at hv; exact hv
    have hvl : v.length = pre.length + (vs.length + 1) := by rw [he, List.length_append, List.length_cons]
    have hr : rd v (pre.length : Int) = a := by rw [he]; exact rd_app pre a vs
    obtain ⟨k, rfl⟩ : ∃ m, k = (m + (needI a).toNat + 1) + 1 := ⟨k - 2 - (needI a).toNat, by omega⟩
    rw [impl_PathText.l0, if_pos (by omega), if_pos (by omega), if_pos (by omega), hr, w64 (n := a - 1) (by omega) (by omega), if_pos (by omega), if_pos (by omega), if_pos (by omega), if_pos (by omega), impl_need, Option.bind_some, letter_cut ha]
    have hlen : (ps.take (needI a).toNat).length = (needI a).toNat := by rw [List.length_take]; omega
    have h1 := impl_text_points v p hp (v.length : Int) (needI a) ha hni.2 (needI a).toNat done (ps.take (needI a).toNat) (ps.drop (needI a).toNat) k (acc ++ [mk [letterB a]]) (pre.length : Int) 0
      (by rw [List.take_append_drop]; exact hpe) hlen (by omega) (by omega) (fun q hx => hq q (List.mem_of_mem_take hx)) (by rw [List.length_append, List.length_singleton]; omega)
    rw [h1, w64 (n := (pre.length : Int) + 1) (by omega) (by omega)]
    have h2 := ih (pre ++ [a]) (ps.drop (needI a).toNat) (done ++ ps.take (needI a).toNat) k (acc ++ [mk [letterB a]] ++ ((ps.take (needI a).toNat).flatMap pairW).map mk) (by rw [he]; simp) (by rw [List.append_assoc, List.take_append_drop]; exact hpe) (fun x hx => hn x (List.mem_cons_of_mem _ hx)) (by rw [List.length_drop]; omega) (fun q hx => hq q (List.mem_of_mem_drop hx))
      (by simp only [List.length_append, List.length_singleton, List.length_map, pairs_length, hlen]; omega)
      (fun x hx => by
        rcases List.mem_append.1 hx with hx | hx
        · rcases List.mem_append.1 hx with hx | hx
          · exact hsm x hx
          · rw [List.mem_singleton.1 hx]; exact Nat.le_of_ble_eq_true rfl
        · obtain ⟨y, hy, rfl⟩ := List.mem_map.1 hx
          exact pairs_small _ (fun q hx => hq q (List.mem_of_mem_take hx)) y hy) (by omega)
    rw [show (pre ++ [a]).length = pre.length + 1 by simp, show (done ++ ps.take (needI a).toNat).length = done.length + (needI a).toNat by rw [List.length_append, hlen]] at h2
    rw [show (pre.length : Int) + 1 = ((pre.length + 1 : Nat) : Int) by omega, h2, pathW]
    congr 3
    simp only [List.map_append, List.map_cons, List.map_map, mk_data, List.append_assoc, List.cons_append, List.nil_append]
    congr 3
    rw [show ((fun x : ByteArray => x.data.toList) ∘ mk) = id from rfl, List.map_id]
theorem impl_text (v : List Int) (p : List S55) (k : Nat) (hk : 200 ≤ k) : impl_PathText.f k v p = some (if pathB v p = true then (mk (pathT v p), true) else (mk [], false)) := by
  unfold impl_PathText.f
  rw [impl_path v p k (by omega), Option.bind_some]
  by_cases h : pathB v p = true
  · obtain ⟨h1, h2, h3, h4, h5⟩ := path_facts h
    rw [if_pos h, if_pos h]
    exact impl_text_loop v p h1 h2 v [] p [] k [] rfl rfl h3 h4 h5 (by simp) (by simp) (by omega)
  · rw [if_neg h, if_neg h]
    rfl

theorem mk_append (x y : List UInt8) : mk x ++ mk y = mk (x ++ y) := by
  apply data_inj
  simp [mk]
theorem all_rounds {α : Type} {g : Nat → Option α} (hg : ∀ k, LeO (g k) (g (k + 1))) (k : Nat) (r : α) (h : g k = some r) : ∀ m, g (k + m) = some r
  | 0 => h
  | m + 1 => hg (k + m) r (all_rounds hg k r h m)
theorem spec_dec_at (n : Int) (h0 : -9223372036854775808 ≤ n) (h1 : n ≤ 9223372036854775807) (k : Nat) (hk : 21 ≤ k) : spec_Decimal.f k n = some (mk (Lib.itoa n)) := by
  obtain ⟨r, e, hr⟩ := spec_dec n h0 h1
  obtain rfl : r = mk (Lib.itoa n) := data_inj hr
  obtain ⟨m, rfl⟩ : ∃ m, k = 21 + m := ⟨k - 21, by omega⟩
  exact all_rounds (g := fun k => spec_Decimal.f k n) (spec_Decimal.mono n) 21 _ e m
theorem spec_text_points (v : List Int) (p : List S55) (hp : p.length ≤ 24) (n : Int) (W : List ByteArray) (a : Int) (hna : needI a = n) (h0 : 0 ≤ n) (hn : n ≤ 3) (i : Int) (hi0 : 0 ≤ i) (hi1 : i < (v.length : Int)) (hra : rd v i = a) : ∀ (r : Nat) (done qs rest : List S55) (k : Nat) (D : List (List UInt8)) (j : Int), p = done ++ (qs ++ rest) → qs.length = r → 0 ≤ j → j + (r : Int) = n →
    (∀ q ∈ qs, (-8388608 ≤ q.f0 ∧ q.f0 ≤ 8388608) ∧ (-8388608 ≤ q.f1 ∧ q.f1 ≤ 8388608)) → D ≠ [] → D.length + 2 * r ≤ 1000 → (∀ x ∈ D, x.length ≤ 20) → 21 ≤ k →
    spec_PathText.l1 (k + r + 1) W (mk (J D)) (done.length : Int) i j v p = spec_PathText.l0 k W (mk (J (D ++ qs.flatMap pairW))) ((done.length + r : Nat) : Int) (wrap64 (i + 1)) v p := by
  intro r
  induction r with
  | zero =>
    intro done qs rest k D j he hl hj hjn _ _ _ _ hk
    obtain rfl : qs = [] := List.eq_nil_of_length_eq_zero hl
    rw [spec_PathText.l1, if_pos hi0, if_pos hi1, hra, spec_need, Option.bind_some, hna, if_neg (by omega)]
    simp
  | succ r ih =>
    intro done qs rest k D j he hl hj hjn hq hD hDl hDs hk
    cases qs with
    | nil => cases hl
    | cons q qs =>
      have hlt : done.length < p.length := by rw [he]; simp
      obtain ⟨⟨a1, a2⟩, b1, b2⟩ := hq q List.mem_cons_self
      have hr : rd_T55 p (done.length : Int) = q := by rw [he, List.cons_append]; exact rdP_app done q _
      have e0 := itoa_len a1 a2
      have e1 := itoa_len b1 b2
      have hJ := J_small D hDs
      have s0 : (mk (J D)).size = (J D).length := mk_size _
      have s1 : (mk (Lib.itoa q.f0)).size = (Lib.itoa q.f0).length := mk_size _
      have s2 : (mk (Lib.itoa q.f1)).size = (Lib.itoa q.f1).length := mk_size _
      have e32 : (⟨#[32]⟩ : ByteArray) = mk [32] := rfl
      rw [show k + (r + 1) + 1 = (k + r + 1) + 1 by omega, spec_PathText.l1, if_pos hi0, if_pos hi1, hra, spec_need, Option.bind_some, hna, if_pos (by omega), if_pos (by omega), if_pos (by omega), if_pos (by omega), hr, spec_dec_at _ (by omega) (by omega) _ (by omega), Option.bind_some, e32, mk_append,
        if_pos (by rw [mk_size, mk_size, List.length_append, List.length_singleton]; omega), mk_append, if_pos (by rw [mk_size, List.length_append, List.length_append, List.length_singleton]; omega), spec_dec_at _ (by omega) (by omega) _ (by omega), Option.bind_some, mk_append,
        if_pos (by rw [mk_size, mk_size, List.length_append, List.length_append, List.length_append, List.length_singleton]; omega), mk_append, w64 (n := (done.length : Int) + 1) (by omega) (by omega), w64 (n := j + 1) (by omega) (by omega)]
      have hj2 : J D ++ [32] ++ Lib.itoa q.f0 ++ [32] ++ Lib.itoa q.f1 = J (D ++ pairW q) := by
        unfold pairW
        rw [show D ++ [Lib.itoa q.f0, Lib.itoa q.f1] = (D ++ [Lib.itoa q.f0]) ++ [Lib.itoa q.f1] by simp, J_snoc _ _ (by simp), J_snoc _ _ hD]
        simp
      rw [hj2]
      have h := ih (done ++ [q]) qs rest k (D ++ pairW q) (j + 1) (by rw [he]; simp) (by simpa using hl) (by omega) (by omega) (fun x hx => hq x (List.mem_cons_of_mem _ hx)) (by simp [pairW]) (by simp [pairW]; omega) (fun x hx => by
        rcases List.mem_append.1 hx with hx | hx
        · exact hDs x hx
        · simp only [pairW, List.mem_cons, List.mem_nil_iff, or_false] at hx
          rcases hx with rfl | rfl <;> omega) hk
      rw [List.length_append, List.length_singleton] at h
      rw [show (done.length : Int) + 1 = ((done.length + 1 : Nat) : Int) by omega]
      refine h.trans ?_
      congr 1
      · simp
      · omega
theorem letter_word {a : Int} (h : 0 ≤ needI a) : rdOf ByteArray.empty [(⟨#[77]⟩ : ByteArray), (⟨#[76]⟩ : ByteArray), (⟨#[81]⟩ : ByteArray), (⟨#[67]⟩ : ByteArray), (⟨#[90]⟩ : ByteArray)] (a - 1) = mk [letterB a] := by
  rcases five h with rfl | rfl | rfl | rfl | rfl <;> rfl
theorem spec_text_loop (v : List Int) (p : List S55) (hv : v.length ≤ 24) (hp : p.length ≤ 24) : ∀ (vs pre : List Int) (ps done : List S55) (k : Nat) (D : List (List UInt8)), v = pre ++ vs → p = done ++ ps → (∀ a ∈ vs, 0 ≤ needI a) → needs vs = ps.length →
    (∀ q ∈ ps, (-8388608 ≤ q.f0 ∧ q.f0 ≤ 8388608) ∧ (-8388608 ≤ q.f1 ∧ q.f1 ≤ 8388608)) → D.length ≤ pre.length + 2 * done.length → (D = [] ↔ pre = []) → (∀ x ∈ D, x.length ≤ 20) → 6 * vs.length + 30 ≤ k →
    spec_PathText.l0 k [(⟨#[77]⟩ : ByteArray), (⟨#[76]⟩ : ByteArray), (⟨#[81]⟩ : ByteArray), (⟨#[67]⟩ : ByteArray), (⟨#[90]⟩ : ByteArray)] (mk (J D)) (done.length : Int) (pre.length : Int) v p = some (mk (J (D ++ pathW vs ps)), true) := by
  intro vs
  induction vs with
  | nil =>
    intro pre ps done k D he hpe _ _ _ _ _ _ hk
    obtain ⟨k, rfl⟩ : ∃ m, k = m + 1 := ⟨k - 1, by omega⟩
    rw [List.append_nil] at he
    subst he
    rw [spec_PathText.l0, if_neg (by omega), pathW, List.append_nil]
  | cons a vs ih =>
    intro pre ps done k D he hpe hn hnl hq hDl hDe hDs hk
    have ha := hn a List.mem_cons_self
    have hf := five ha
    have hni := needI_in a
    rw [needs_cons] at hnl
    rw [List.length_cons] at hk
    have hd : done.length + ps.length ≤ 24 := by rw [hpe, List.length_append] at hp; exact hp
    have hpre : pre.length + (vs.length + 1) ≤ 24 := by rw [he, List.length_append, List.length_cons] at hv; exact hv
    have hvl : v.length = pre.length + (vs.length + 1) := by rw [he, List.length_append, List.length_cons]
    have hr : rd v (pre.length : Int) = a := by rw [he]; exact rd_app pre a vs
    have hJ := J_small D hDs
    have s0 : (mk (J D)).size = (J D).length := mk_size _
    obtain ⟨k, rfl⟩ : ∃ m, k = (m + (needI a).toNat + 1) + 1 + 1 := ⟨k - 3 - (needI a).toNat, by omega⟩
    have hlen : (ps.take (needI a).toNat).length = (needI a).toNat := by rw [List.length_take]; omega
    have hstep : spec_PathText.l0 ((k + (needI a).toNat + 1) + 1 + 1) [(⟨#[77]⟩ : ByteArray), (⟨#[76]⟩ : ByteArray), (⟨#[81]⟩ : ByteArray), (⟨#[67]⟩ : ByteArray), (⟨#[90]⟩ : ByteArray)] (mk (J D)) (done.length : Int) (pre.length : Int) v p
        = spec_PathText.l1 (k + (needI a).toNat + 1) [(⟨#[77]⟩ : ByteArray), (⟨#[76]⟩ : ByteArray), (⟨#[81]⟩ : ByteArray), (⟨#[67]⟩ : ByteArray), (⟨#[90]⟩ : ByteArray)] (mk (J (D ++ [[letterB a]]))) (done.length : Int) (pre.length : Int) 0 v p := by
      have e32 : (⟨#[32]⟩ : ByteArray) = mk [32] := rfl
      have sl : (mk [letterB a]).size = 1 := mk_size _
      rw [spec_PathText.l0, if_pos (by omega)]
      by_cases h : (pre.length : Int) > 0
      · have hne : D ≠ [] := fun e => by rw [hDe.1 e] at h; simp at h
        rw [if_pos h, if_pos (by omega), e32, mk_append, spec_PathText.j1, if_pos (by omega), if_pos (by omega), hr, w64 (n := a - 1) (by omega) (by omega), if_pos (by omega), if_pos (by simp only [List.length_cons, List.length_nil]; omega), letter_word ha, if_pos (by rw [mk_size, sl, List.length_append, List.length_singleton]; omega), mk_append, J_snoc D _ hne]
        simp
      · have hne : D = [] := hDe.2 (List.eq_nil_of_length_eq_zero (by omega))
        subst hne
        rw [if_neg h, spec_PathText.j1, if_pos (by omega), if_pos (by omega), hr, w64 (n := a - 1) (by omega) (by omega), if_pos (by omega), if_pos (by simp only [List.length_cons, List.length_nil]; omega), letter_word ha, if_pos (by rw [mk_size, sl, J_nil, List.length_nil]; omega), mk_append]
        rfl
    rw [hstep]
    have h1 := spec_text_points v p hp (needI a) [(⟨#[77]⟩ : ByteArray), (⟨#[76]⟩ : ByteArray), (⟨#[81]⟩ : ByteArray), (⟨#[67]⟩ : ByteArray), (⟨#[90]⟩ : ByteArray)] a rfl ha hni.2 (pre.length : Int) (by omega) (by omega) hr (needI a).toNat done (ps.take (needI a).toNat) (ps.drop (needI a).toNat) k (D ++ [[letterB a]]) 0
      (by rw [List.take_append_drop]; exact hpe) hlen (by omega) (by omega) (fun q hx => hq q (List.mem_of_mem_take hx)) (by simp) (by rw [List.length_append, List.length_singleton]; omega)
      (fun x hx => by
        rcases List.mem_append.1 hx with hx | hx
        · exact hDs x hx
        · rw [List.mem_singleton.1 hx]; exact Nat.le_of_ble_eq_true rfl) (by omega)
    rw [h1, w64 (n := (pre.length : Int) + 1) (by omega) (by omega)]
    have h2 := ih (pre ++ [a]) (ps.drop (needI a).toNat) (done ++ ps.take (needI a).toNat) k (D ++ [[letterB a]] ++ (ps.take (needI a).toNat).flatMap pairW) (by rw [he]; simp) (by rw [List.append_assoc, List.take_append_drop]; exact hpe) (fun x hx => hn x (List.mem_cons_of_mem _ hx)) (by rw [List.length_drop]; omega) (fun q hx => hq q (List.mem_of_mem_drop hx))
      (by simp only [List.length_append, List.length_singleton, pairs_length, hlen]; omega) (by simp)
      (fun x hx => by
        rcases List.mem_append.1 hx with hx | hx
        · rcases List.mem_append.1 hx with hx | hx
          · exact hDs x hx
          · rw [List.mem_singleton.1 hx]; exact Nat.le_of_ble_eq_true rfl
        · exact pairs_small _ (fun q hx => hq q (List.mem_of_mem_take hx)) x hx) (by omega)
    rw [show (pre ++ [a]).length = pre.length + 1 by simp, show (done ++ ps.take (needI a).toNat).length = done.length + (needI a).toNat by rw [List.length_append, hlen]] at h2
    rw [show (pre.length : Int) + 1 = ((pre.length + 1 : Nat) : Int) by omega, h2, pathW]
    congr 3
    simp
theorem spec_text (v : List Int) (p : List S55) (k : Nat) (hk : 200 ≤ k) : spec_PathText.f k v p = some (if pathB v p = true then (mk (pathT v p), true) else (mk [], false)) := by
  unfold spec_PathText.f
  rw [spec_path v p k (by omega), Option.bind_some]
  by_cases h : pathB v p = true
  · obtain ⟨h1, h2, h3, h4, h5⟩ := path_facts h
    rw [if_pos h, if_pos h]
    exact spec_text_loop v p h1 h2 v [] p [] k [] rfl rfl h3 h4 h5 (by simp) (by simp) (by simp) (by omega)
  · rw [if_neg h, if_neg h]
    rfl

theorem FnExactPathText (v : List Int) (p : List S78) (hv : v.length ≤ 9223372036854775807) (hp : p.length ≤ 9223372036854775807) : ∃ k, laws_FnExactPathText.f k v p = some true := by
  refine ⟨v.length + p.length + 300, ?_⟩
  unfold laws_FnExactPathText.f
  obtain ⟨r, hr, hs⟩ := szPath v p hv hp
  rw [hr, Option.bind_some]
  by_cases h : r < 0
  · rw [if_pos h]
  · have ⟨h1, h2⟩ := hs (by omega)
    rw [if_neg h, toPath v p h1 h2 _ (by omega) (by omega)]
    simp only [Option.bind_some]
    rw [spec_text _ _ _ (by omega), impl_text _ _ _ (by omega)]
    simp only [Option.bind_some]
    rw [if_pos trivial, show ((if pathB v (p.map cv) = true then (mk (pathT v (p.map cv)), true) else (mk [], false)).2 != (if pathB v (p.map cv) = true then (mk (pathT v (p.map cv)), true) else (mk [], false)).2) = false from bne_self_eq_false _]
    obtain ⟨k, hk⟩ : ∃ k, v.length + p.length + 300 = k + 1 := ⟨v.length + p.length + 299, rfl⟩
    rw [hk, laws_FnExactPathText.j0, if_neg (by decide), toPath v p h1 h2 _ (by omega) (by omega)]
    simp only [Option.bind_some]
    rw [eqPath_self _ _ (by omega) (by simp; omega) _ (by omega) (by simp; omega)]
    rfl
end Go.Proofs.YtpmgfmalpijjbaaDoor.Pure
