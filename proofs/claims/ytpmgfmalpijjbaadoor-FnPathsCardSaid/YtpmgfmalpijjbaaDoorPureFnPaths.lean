/- FnPaths: a drawn right path comes back from its text; drawn bytes that are one are the bytes of it; for every code. -/
import Derived.Test.YtpmgfmalpijjbaaDoorQFnPathsx0
import Derived.Test.YtpmgfmalpijjbaaDoorQFnPathsx1
import Derived.Test.YtpmgfmalpijjbaaDoorQFnPathsx10
import Derived.Test.YtpmgfmalpijjbaaDoorQFnPathsx11
import Derived.Test.YtpmgfmalpijjbaaDoorQFnPathsx12
import Derived.Test.YtpmgfmalpijjbaaDoorQFnPathsx13
import Derived.Test.YtpmgfmalpijjbaaDoorQFnPathsx14
import Derived.Test.YtpmgfmalpijjbaaDoorQFnPathsx15
import Derived.Test.YtpmgfmalpijjbaaDoorQFnPathsx16
import Derived.Test.YtpmgfmalpijjbaaDoorQFnPathsx2
import Derived.Test.YtpmgfmalpijjbaaDoorQFnPathsx3
import Derived.Test.YtpmgfmalpijjbaaDoorQFnPathsx4
import Derived.Test.YtpmgfmalpijjbaaDoorQFnPathsx5
import Derived.Test.YtpmgfmalpijjbaaDoorQFnPathsx6
import Derived.Test.YtpmgfmalpijjbaaDoorQFnPathsx7
import Derived.Test.YtpmgfmalpijjbaaDoorQFnPathsx8
import Derived.Test.YtpmgfmalpijjbaaDoorQFnPathsx9
import Derived.Test.YtpmgfmalpijjbaaDoorPlain
namespace Go.Proofs.YtpmgfmalpijjbaaDoor.Pure
open Go.RowKit Go.Proofs.YtpmgfmalpijjbaaDoor.PFnPaths Go.Proofs.YtpmgfmalpijjbaaDoor.Plain Go.Proofs.YtpmgfmalpijjbaaDoorW.PrintWords Go.Proofs.YtpmgfmalpijjbaaDoorW.PrintLast

theorem spec_empty (a b c d : Int) : spec_Empty.f a b c d = some (emB a b c d) := by
  unfold spec_Empty.f
  exact emB_text a b c d

def farB (x : Int) : Bool := decide (-8388608 ≤ x) && decide (x ≤ 8388608)
theorem farB_true {x : Int} : farB x = true ↔ -8388608 ≤ x ∧ x ≤ 8388608 := by simp [farB]

theorem spec_far (x : Int) : spec_l01In.f x (-8388608) 8388608 = some (farB x) := by
  unfold spec_l01In.f farB
  by_cases h : -8388608 ≤ x
  · rw [if_pos h]
    simp [h]
  · rw [if_neg h]
    simp [h]
theorem spec_pointOk (x y : Int) : spec_PointOk.f x y = some (farB x && farB y) := by
  unfold spec_PointOk.f
  rw [spec_far, spec_far]
  cases farB x <;> rfl

theorem impl_far (x : Int) : impl_isFar.f x = some (farB x) := by
  unfold impl_isFar.f impl_inRange.f farB
  by_cases h : -8388608 ≤ x
  · rw [if_pos h]
    simp [h]
  · rw [if_neg h]
    simp [h]
theorem impl_pointOk (x y : Int) : impl_PointOk.f x y = some (farB x && farB y) := by
  unfold impl_PointOk.f
  rw [impl_far, impl_far]
  cases farB x <;> rfl

theorem rdP (l : List S55) (i : Nat) (h : i < l.length) : rd_T55 l (i : Int) = l[i] := by
  unfold rd_T55
  rw [show ((i : Int)).toNat = i by omega, List.getD_eq_getElem?_getD, List.getElem?_eq_getElem h]
  rfl

theorem rdI (l : List Int) (i : Nat) (h : i < l.length) : rd l (i : Int) = l[i] := by
  unfold rd
  rw [show ((i : Int)).toNat = i by omega, List.getD_eq_getElem?_getD, List.getElem?_eq_getElem h]
  rfl

def okP (p : S55) : Bool := farB p.f0 && farB p.f1
theorem points_loop (l : List S55) (hl : l.length ≤ 9223372036854775806) (d : Nat) : ∀ (k i : Nat), l.length - i = d → i ≤ l.length → d < k → impl_pointsOk.l0 k l (l.length : Int) (i : Int) = some ((l.drop i).all okP) := by
  induction d with
  | zero =>
    intro k i hd hi hk
    obtain ⟨k, rfl⟩ : ∃ m, k = m + 1 := ⟨k - 1, by omega⟩
    simp only [impl_pointsOk.l0]
    rw [if_neg (by omega), List.drop_of_length_le (by omega)]
    rfl
  | succ d ih =>
    intro k i hd hi hk
    obtain ⟨k, rfl⟩ : ∃ m, k = m + 1 := ⟨k - 1, by omega⟩
    simp only [impl_pointsOk.l0]
    have hlt : i < l.length := by omega
    have c1 : (i : Int) < (l.length : Int) := by omega
    have c2 : (0 : Int) ≤ (i : Int) := by omega
    rw [if_pos c1, if_pos c2, if_pos c1, impl_pointOk, rdP l i hlt, w64 (n := (i : Int) + 1) (by omega) (by omega), show (i : Int) + 1 = ((i + 1 : Nat) : Int) by omega, ih k (i + 1) (by omega) (by omega) (by omega), List.drop_eq_getElem_cons hlt]
    simp only [Option.bind_some, List.all_cons, okP]
    cases farB l[i].f0 <;> cases farB l[i].f1 <;> simp
theorem points_ok (l : List S55) (hl : l.length ≤ 9223372036854775806) (k : Nat) (hk : l.length < k) : impl_pointsOk.f k l = some (l.all okP) := by
  unfold impl_pointsOk.f
  have := points_loop l hl l.length k 0 (by omega) (by omega) hk
  simpa using this

def needI (a : Int) : Int := if a = 1 then 1 else if a = 2 then 1 else if a = 3 then 2 else if a = 4 then 3 else if a = 5 then 0 else -1
theorem needI_in (a : Int) : -1 ≤ needI a ∧ needI a ≤ 3 := by
  unfold needI
  repeat (first | omega | split)
theorem needI_ok {a : Int} (h : 0 ≤ needI a) : 1 ≤ a ∧ a ≤ 5 := by
  unfold needI at h
  repeat (first | omega | (split at h))
theorem spec_need (a : Int) : spec_NeedOf.f a = some (needI a) := by
  by_cases h : 1 ≤ a ∧ a ≤ 5
  · have hc : a = 1 ∨ a = 2 ∨ a = 3 ∨ a = 4 ∨ a = 5 := by omega
    rcases hc with rfl | rfl | rfl | rfl | rfl <;> decide +kernel
  · have e : spec_l01In.f a 1 5 = some false := by
      unfold spec_l01In.f
      by_cases h1 : a ≥ 1
      · rw [if_pos h1, decide_eq_false (by omega)]
      · rw [if_neg h1]
    have h1 : ¬ a = 1 := by omega
    have h2 : ¬ a = 2 := by omega
    have h3 : ¬ a = 3 := by omega
    have h4 : ¬ a = 4 := by omega
    have h5 : ¬ a = 5 := by omega
    unfold spec_NeedOf.f needI
    rw [Option.bind_some, e]
    simp [h1, h2, h3, h4, h5]
theorem impl_need (k : Nat) (a : Int) : impl_NeedOf.f (k + 1) a = some (needI a) := by
  unfold impl_NeedOf.f needI
  by_cases h1 : a = 1
  · subst h1
    simp [impl_NeedOf.j0]
  · rw [if_neg h1, if_neg h1]
    by_cases h2 : a = 2
    · subst h2
      simp [impl_NeedOf.j0]
    · have e : (a == 2) = false := beq_eq_false_iff_ne.mpr h2
      simp only [impl_NeedOf.j0, e, if_neg h2, Bool.false_eq_true, if_false]
      repeat (first | rfl | split)

/-- The verbs gone through: how many points they take together; none where one is wrong. -/
def scanV : List Int → Bool → Int → Option Int
  | [], _, m => some m
  | v :: vs, b, m => if needI v < 0 then none else if b = true ∧ v ≠ 1 then none else scanV vs (v == 5) (m + needI v)
def pathB (v : List Int) (p : List S55) : Bool :=
  if p.length > 24 ∨ v.length > 24 then false else p.all okP && (match scanV v true 0 with | none => false | some m => m == (p.length : Int))
def beginsAt (v : List Int) (i : Nat) : Bool := if i = 0 then true else v[i - 1]?.getD 0 == 5
theorem spec_points_loop (v : List Int) (p : List S55) (m : Int) (hl : p.length ≤ 24) (d : Nat) : ∀ (k i : Nat), p.length - i = d → i ≤ p.length → d < k → spec_PathOk.l1 k m (i : Int) v p = some ((p.drop i).all okP && (m == (p.length : Int))) := by
  induction d with
  | zero =>
    intro k i hd hi hk
    obtain ⟨k, rfl⟩ : ∃ m, k = m + 1 := ⟨k - 1, by omega⟩
    simp only [spec_PathOk.l1]
    rw [if_neg (by omega), List.drop_of_length_le (by omega)]
    simp
  | succ d ih =>
    intro k i hd hi hk
    obtain ⟨k, rfl⟩ : ∃ m, k = m + 1 := ⟨k - 1, by omega⟩
    simp only [spec_PathOk.l1]
    have hlt : i < p.length := by omega
    have c1 : (i : Int) < (p.length : Int) := by omega
    have c2 : (0 : Int) ≤ (i : Int) := by omega
    rw [if_pos c1, if_pos c2, spec_pointOk, rdP p i hlt, w64 (n := (i : Int) + 1) (by omega) (by omega), show (i : Int) + 1 = ((i + 1 : Nat) : Int) by omega, ih k (i + 1) (by omega) (by omega) (by omega), List.drop_eq_getElem_cons hlt]
    simp only [Option.bind_some, List.all_cons, okP]
    cases farB p[i].f0 <;> cases farB p[i].f1 <;> simp
theorem verbs_loop (v : List Int) (p : List S55) (hv : v.length ≤ 24) (hp : p.length ≤ 24) (d : Nat) : ∀ (k i : Nat) (m : Int), v.length - i = d → i ≤ v.length → 0 ≤ m → m ≤ 3 * (i : Int) → d + 30 < k →
    spec_PathOk.l0 k m (i : Int) v p = some (match scanV (v.drop i) (beginsAt v i) m with | none => false | some m => p.all okP && (m == (p.length : Int))) ∧
    impl_PathOk.l0 k m v (v.length : Int) (i : Int) v p = some (match scanV (v.drop i) (beginsAt v i) m with | none => false | some m => m == (p.length : Int)) := by
  induction d with
  | zero =>
    intro k i m hd hi h0 h1 hk
    obtain ⟨k, rfl⟩ : ∃ m, k = m + 1 := ⟨k - 1, by omega⟩
    simp only [spec_PathOk.l0, impl_PathOk.l0]
    rw [if_neg (by omega), if_neg (by omega), List.drop_of_length_le (by omega), show (0 : Int) = ((0 : Nat) : Int) from rfl, spec_points_loop v p m hp p.length k 0 (by omega) (by omega) (by omega)]
    simp [scanV]
  | succ d ih =>
    intro k i m hd hi h0 h1 hk
    obtain ⟨k, rfl⟩ : ∃ m, k = m + 2 := ⟨k - 2, by omega⟩
    rw [spec_PathOk.l0, impl_PathOk.l0]
    have hlt : i < v.length := by omega
    have c1 : (i : Int) < (v.length : Int) := by omega
    have c2 : (0 : Int) ≤ (i : Int) := by omega
    have hn := needI_in v[i]
    rw [if_pos c1, if_pos c2, if_pos c1, if_pos c2, if_pos c1, rdI v i hlt, spec_need, Option.bind_some, impl_need, Option.bind_some, List.drop_eq_getElem_cons hlt]
    simp only [scanV]
    have hw : wrap64 ((i : Int) + 1) = ((i + 1 : Nat) : Int) := by rw [w64 (by omega) (by omega)]; omega
    have hm : wrap64 (m + needI v[i]) = m + needI v[i] := w64 (by omega) (by omega)
    rw [hw, hm]
    have hb : beginsAt v (i + 1) = (v[i] == 5) := by
      unfold beginsAt
      rw [if_neg (by omega), Nat.add_sub_cancel, List.getElem?_eq_getElem hlt]
      rfl
    by_cases hneg : needI v[i] < 0
    · simp only [if_pos hneg]
      by_cases hi0 : (i : Int) = 0
      · rw [if_pos hi0]
        exact ⟨trivial, rfl⟩
      · have e1 : wrap64 ((i : Int) - 1) = ((i - 1 : Nat) : Int) := by rw [w64 (by omega) (by omega)]; omega
        rw [if_neg hi0, e1, if_pos (show (0 : Int) ≤ ((i - 1 : Nat) : Int) by omega), if_pos (show ((i - 1 : Nat) : Int) < (v.length : Int) by omega)]
        exact ⟨trivial, rfl⟩
    · have ⟨g1, g2⟩ := ih (k + 1) (i + 1) (m + needI v[i]) (by omega) (by omega) (by omega) (by omega) (by omega)
      rw [hb] at g1 g2
      simp only [if_neg hneg]
      by_cases hi0 : (i : Int) = 0
      · have hbi : beginsAt v i = true := by
          unfold beginsAt
          rw [if_pos (by omega)]
        rw [if_pos hi0, if_pos hi0, hbi]
        by_cases h1v : v[i] = 1
        · rw [if_pos h1v, if_pos h1v, if_neg (by simp [h1v])]
          exact ⟨g1, g2⟩
        · rw [if_neg h1v, if_neg h1v, if_pos (by simp [h1v])]
          exact ⟨rfl, rfl⟩
      · have e1 : wrap64 ((i : Int) - 1) = ((i - 1 : Nat) : Int) := by rw [w64 (by omega) (by omega)]; omega
        have c5 : (0 : Int) ≤ ((i - 1 : Nat) : Int) := by omega
        have c6 : ((i - 1 : Nat) : Int) < (v.length : Int) := by omega
        have hbi : beginsAt v i = (v[i - 1] == 5) := by
          unfold beginsAt
          rw [if_neg (by omega), List.getElem?_eq_getElem (by omega)]
          rfl
        rw [if_neg hi0, if_neg hi0, e1, if_pos c5, if_pos c6, if_pos c5, if_pos c6, rdI v (i - 1) (by omega), hbi]
        by_cases h5 : v[i - 1] = 5
        · rw [if_pos h5, if_pos h5]
          by_cases h1v : v[i] = 1
          · rw [if_pos h1v, if_pos h1v, if_neg (by simp [h1v])]
            exact ⟨g1, g2⟩
          · rw [if_neg h1v, if_neg h1v, if_pos (by simp [h1v, h5])]
            exact ⟨rfl, rfl⟩
        · rw [if_neg h5, if_neg h5, if_neg (by simp [h5])]
          exact ⟨g1, g2⟩
theorem spec_path (v : List Int) (p : List S55) (k : Nat) (hk : 60 < k) : spec_PathOk.f k v p = some (pathB v p) := by
  obtain ⟨k, rfl⟩ : ∃ m, k = m + 1 := ⟨k - 1, by omega⟩
  unfold spec_PathOk.f pathB
  by_cases h1 : (p.length : Int) > 24
  · rw [if_pos h1, if_pos (.inl (by omega))]
    simp [spec_PathOk.j0]
  · rw [if_neg h1]
    by_cases h2 : (v.length : Int) > 24
    · rw [decide_eq_true h2, if_pos (.inr (by omega))]
      simp [spec_PathOk.j0]
    · rw [decide_eq_false h2, if_neg (by omega)]
      have := (verbs_loop v p (by omega) (by omega) v.length k 0 0 (by omega) (by omega) (by omega) (by omega) (by omega)).1
      simp only [spec_PathOk.j0, Bool.false_eq_true, if_false]
      rw [show ((0 : Nat) : Int) = 0 from rfl] at this
      rw [this, List.drop_zero]
      have hb : beginsAt v 0 = true := rfl
      rw [hb]
      cases scanV v true 0 <;> simp
theorem impl_path (v : List Int) (p : List S55) (k : Nat) (hk : 60 < k) : impl_PathOk.f k v p = some (pathB v p) := by
  obtain ⟨k, rfl⟩ : ∃ m, k = m + 1 := ⟨k - 1, by omega⟩
  unfold impl_PathOk.f pathB
  by_cases h1 : (p.length : Int) > 24
  · rw [if_pos h1, if_pos (.inl (by omega))]
    simp [impl_PathOk.j0]
  · rw [if_neg h1]
    by_cases h2 : (v.length : Int) > 24
    · rw [if_pos h2, if_pos (.inr (by omega))]
      simp [impl_PathOk.j0]
    · rw [if_neg h2, if_neg (by omega), points_ok p (by omega) _ (by omega)]
      simp only [Option.bind_some, impl_PathOk.j0]
      cases hp : p.all okP
      · simp
      · have := (verbs_loop v p (by omega) (by omega) v.length k 0 0 (by omega) (by omega) (by omega) (by omega) (by omega)).2
        rw [show ((0 : Nat) : Int) = 0 from rfl] at this
        simp only [Bool.not_true, Bool.false_eq_true, if_false]
        rw [this, List.drop_zero]
        have hb : beginsAt v 0 = true := rfl
        rw [hb]
        cases scanV v true 0 <;> simp

/-! ### words with one blank between -/
def J (L : List (List UInt8)) : List UInt8 := Lib.join L [32]
theorem J_nil : J [] = [] := rfl
theorem J_one (x : List UInt8) : J [x] = x := Lib.join_one x [32]
theorem J_cons (x : List UInt8) (r : List (List UInt8)) : J (x :: r) = x ++ (r.map fun y => 32 :: y).flatten := by
  unfold J
  rw [Lib.join_cons]
  rfl
theorem J_snoc (L : List (List UInt8)) (x : List UInt8) (h : L ≠ []) : J (L ++ [x]) = J L ++ 32 :: x := by
  cases L with
  | nil => exact absurd rfl h
  | cons y r =>
    rw [List.cons_append, J_cons, J_cons]
    simp
theorem J_cons2 (x y : List UInt8) (r : List (List UInt8)) : J (x :: y :: r) = x ++ 32 :: J (y :: r) := by
  rw [J_cons, J_cons]
  simp
theorem J_length (x : List UInt8) (r : List (List UInt8)) : (J (x :: r)).length = r.length + Lib.lens (x :: r) := by
  unfold J
  rw [Lib.join_length]
  simp
/-! ### a text parted at its blanks -/
def parts : List UInt8 → List (List UInt8)
  | [] => [[]]
  | b :: l => if b = 32 then [] :: parts l else (b :: (parts l).headD []) :: (parts l).tail
theorem parts_ne (l : List UInt8) : parts l ≠ [] := by
  cases l with
  | nil => simp [parts]
  | cons b l =>
    unfold parts
    split <;> simp
theorem J_parts (l : List UInt8) : J (parts l) = l := by
  induction l with
  | nil => rfl
  | cons b l ih =>
    have hn := parts_ne l
    unfold parts
    obtain ⟨x, r, e⟩ : ∃ x r, parts l = x :: r := by
      cases h : parts l with
      | nil => exact absurd h hn
      | cons x r => exact ⟨x, r, rfl⟩
    rw [e] at ih ⊢
    split
    · rename_i hb
      subst hb
      rw [J_cons2, ih]
      rfl
    · rw [List.headD_cons, List.tail_cons, J_cons]
      rw [J_cons] at ih
      rw [List.cons_append, ih]
theorem parts_no (l : List UInt8) : ∀ x ∈ parts l, ∀ b ∈ x, b ≠ 32 := by
  induction l with
  | nil => simp [parts]
  | cons c l ih =>
    unfold parts
    split
    · intro x hx
      rcases List.mem_cons.1 hx with rfl | hx
      · simp
      · exact ih x hx
    · rename_i hc
      intro x hx
      have hn := parts_ne l
      obtain ⟨y, r, e⟩ : ∃ x r, parts l = x :: r := by
        cases h : parts l with
        | nil => exact absurd h hn
        | cons x r => exact ⟨x, r, rfl⟩
      rw [e] at hx ih
      rcases List.mem_cons.1 hx with rfl | hx
      · intro b hb
        rcases List.mem_cons.1 hb with rfl | hb
        · exact hc
        · exact ih y List.mem_cons_self b hb
      · exact ih x (List.mem_cons_of_mem _ hx)
theorem parts_word (x : List UInt8) (hx : ∀ b ∈ x, b ≠ 32) : parts x = [x] := by
  induction x with
  | nil => rfl
  | cons b x ih =>
    unfold parts
    rw [if_neg (hx b List.mem_cons_self), ih (fun c hc => hx c (List.mem_cons_of_mem _ hc))]
    rfl
theorem parts_app (x : List UInt8) (hx : ∀ b ∈ x, b ≠ 32) (l : List UInt8) : parts (x ++ 32 :: l) = x :: parts l := by
  induction x with
  | nil => simp [parts]
  | cons b x ih =>
    rw [List.cons_append, parts, if_neg (hx b List.mem_cons_self), ih (fun c hc => hx c (List.mem_cons_of_mem _ hc))]
    rfl
/-- The words come back. -/
theorem parts_J (L : List (List UInt8)) (hL : L ≠ []) (h : ∀ x ∈ L, ∀ b ∈ x, b ≠ 32) : parts (J L) = L := by
  induction L with
  | nil => exact absurd rfl hL
  | cons x r ih =>
    cases r with
    | nil => rw [J_one, parts_word x (h x List.mem_cons_self)]
    | cons y r => rw [J_cons2, parts_app x (h x List.mem_cons_self), ih (by simp) (fun z hz => h z (List.mem_cons_of_mem _ hz))]
/-! ### the library's own -/
theorem first_blank (s : List UInt8) : (∀ b ∈ s, b ≠ 32) ∨ ∃ x l, s = x ++ 32 :: l ∧ ∀ b ∈ x, b ≠ 32 := by
  induction s with
  | nil => exact .inl (by simp)
  | cons b s ih =>
    by_cases hb : b = 32
    · subst hb
      exact .inr ⟨[], s, rfl, by simp⟩
    · rcases ih with h | ⟨x, l, rfl, h⟩
      · exact .inl (fun c hc => by
          rcases List.mem_cons.1 hc with rfl | hc
          · exact hb
          · exact h c hc)
      · exact .inr ⟨b :: x, l, rfl, fun c hc => by
          rcases List.mem_cons.1 hc with rfl | hc
          · exact hb
          · exact h c hc⟩
theorem index_at (x l : List UInt8) (h : ∀ b ∈ x, b ≠ 32) : Lib.index (x ++ 32 :: l) [32] = (x.length : Int) := by
  rw [Lib.index_one]
  induction x with
  | nil => simp [Lib.indexByte]
  | cons b x ih =>
    have ih := ih (fun c hc => h c (List.mem_cons_of_mem _ hc))
    rw [List.cons_append, Lib.indexByte, ih]
    have hb : b ≠ 32 := h b List.mem_cons_self
    simp [hb]
theorem split_parts (s : List UInt8) : Lib.split s [32] = parts s := by
  have key : ∀ (n : Nat) (s : List UInt8), s.length = n → Lib.split s [32] = parts s := by
    intro n
    induction n using Nat.strongRecOn with
    | ind n ih =>
      intro s hn
      rcases first_blank s with h | ⟨x, l, rfl, h⟩
      · rw [parts_word s h]
        have hc : Lib.count s [32] = 0 := by
          rw [Lib.count_one, List.count_eq_zero]
          exact fun hm => h 32 hm rfl
        unfold Lib.split
        rw [hc]
        rfl
      · have hix := index_at x l h
        have hd : (x ++ 32 :: l).drop (x.length + 1) = l := by
          rw [← List.drop_drop, List.drop_left]
          rfl
        have hc : Lib.count (x ++ 32 :: l) [32] = Lib.count l [32] + 1 := by
          rw [Lib.count_hit (by simp) hix, List.length_singleton, hd, Nat.add_comm]
        have ih := ih l.length (by rw [← hn, List.length_append, List.length_cons]; omega) l rfl
        unfold Lib.split at ih ⊢
        rw [parts_app x h, hc, Lib.splitK, hix, if_neg (by simp), ← ih]
        simp
  exact key s.length s rfl
/-- strings.Split at a blank. -/
theorem splitB_parts (s : ByteArray) : (Lib.splitB ⟨#[32]⟩ 0 (Lib.countB s ⟨#[32]⟩) s).map (·.data.toList) = parts s.data.toList := by
  rw [Lib.splitB_data]
  exact split_parts s.data.toList

/-- A text of bytes. -/
def mk (l : List UInt8) : ByteArray := ⟨l.toArray⟩
theorem mk_data (l : List UInt8) : (mk l).data.toList = l := rfl
theorem mk_toList (l : List UInt8) : (mk l).toList = l := Lib.toList_data _
theorem mk_size (l : List UInt8) : (mk l).size = l.length := Lib.size_eq _
theorem mk_of (s : ByteArray) : mk s.data.toList = s := Lib.mk_data s
theorem mk_extract (s : ByteArray) (b i : Nat) : s.extract b i = mk ((s.data.toList.drop b).take (i - b)) := by
  rw [← mk_of (s.extract b i), Lib.extract_data]
theorem mk_inj {x y : List UInt8} (h : mk x = mk y) : x = y := by
  have := congrArg (fun s : ByteArray => s.data.toList) h
  exact this
theorem data_inj {x y : ByteArray} (h : x.data.toList = y.data.toList) : x = y := by
  rw [← mk_of x, ← mk_of y, h]
theorem bt_list (s : ByteArray) (i : Nat) (h : i < s.data.toList.length) : bt s (i : Int) = ((s.data.toList[i]).toNat : Int) := by
  have hs : i < s.size := by rw [Lib.size_eq]; exact h
  rw [bt_at' s i hs, Array.getElem_toList]
  rfl
theorem split_mk (s : ByteArray) : Lib.splitB ⟨#[32]⟩ 0 (Lib.countB s ⟨#[32]⟩) s = (parts s.data.toList).map mk := by
  rw [← splitB_parts, List.map_map, show (mk ∘ fun x : ByteArray => x.data.toList) = id from funext fun x => mk_of x, List.map_id]
theorem parts_length (l : List UInt8) : (parts l).length ≤ l.length + 1 := by
  induction l with
  | nil => simp [parts]
  | cons b l ih =>
    have hn := parts_ne l
    unfold parts
    split
    · simp only [List.length_cons]; omega
    · simp only [List.length_cons, List.length_tail]; omega

theorem figure_val {d : Int} (h0 : 0 ≤ d) (h1 : d < 10) : spec_l01Figure.f d = some (48 + d) := by
  unfold spec_l01Figure.f
  rw [if_pos h1, w64 (n := 48 + d) (by omega) (by omega)]
  congr 1
  omega
/-- The digits; none of 0. -/
def dd (u : Nat) : List UInt8 := if u = 0 then [] else Lib.decDigits u
theorem dd_step {u : Nat} (h : u ≠ 0) : dd u = dd (u / 10) ++ [UInt8.ofNat (48 + u % 10)] := by
  unfold dd
  rw [if_neg h]
  by_cases h1 : u < 10
  · rw [if_pos (by omega), Lib.decDigits, dif_pos h1, Nat.mod_eq_of_lt h1]
    rfl
  · rw [if_neg (by omega), Lib.decDigits, dif_neg h1]
theorem one_data (d : Int) (h0 : 0 ≤ d) : (strOfNums [48 + d]).data.toList = [UInt8.ofNat (48 + d.toNat)] := by
  rw [strOfNums_data]
  simp only [List.map_cons, List.map_nil]
  congr 2
  omega
theorem dec_loop (b : Bool) (k : Nat) : ∀ (x : Int) (acc : ByteArray), x.natAbs < 10 ^ k → x.natAbs ≤ 9223372036854775808 → k ≤ 20 → acc.size + k ≤ 40 →
    ∃ r : ByteArray, spec_Decimal.l0 (k + 1) x b acc = some r ∧ r.data.toList = (if b = true then [45] else []) ++ dd x.natAbs ++ acc.data.toList := by
  induction k with
  | zero =>
    intro x acc hx hx2 hk ha
    have e : x = 0 := by omega
    subst e
    rw [spec_Decimal.l0, if_pos rfl]
    cases b
    · rw [if_neg (by decide)]
      exact ⟨_, rfl, by simp [dd]⟩
    · rw [if_pos rfl, if_pos (by omega)]
      exact ⟨_, rfl, by rw [ByteArray.data_append, Array.toList_append]; simp [dd]⟩
  | succ k ih =>
    intro x acc hx hx2 hk ha
    rw [spec_Decimal.l0]
    by_cases h0 : x = 0
    · subst h0
      rw [if_pos rfl]
      cases b
      · rw [if_neg (by decide)]
        exact ⟨_, rfl, by simp [dd]⟩
      · rw [if_pos rfl, if_pos (by omega)]
        exact ⟨_, rfl, by rw [ByteArray.data_append, Array.toList_append]; simp [dd]⟩
    · rw [if_neg h0]
      have hp : (10 : Nat) ^ (k + 1) = 10 ^ k * 10 := Nat.pow_succ 10 k
      have hq : x.natAbs / 10 < 10 ^ k := by omega
      have hk2 : (10 : Nat) ^ (k + 1) ≤ 10 ^ 20 := Nat.pow_le_pow_right (by decide) hk
      have key : ∃ d : Nat, d < 10 ∧ d = x.natAbs % 10 ∧ (Int.tmod x 10 = (d : Int) ∨ Int.tmod x 10 = -(d : Int)) ∧ (Int.tdiv x 10).natAbs = x.natAbs / 10 := by
        refine ⟨x.natAbs % 10, by omega, rfl, ?_, by rw [Int.natAbs_tdiv]; rfl⟩
        rcases Int.natAbs_eq x with h | h
        · left
          rw [h, tmod_pos (by omega)]
          omega
        · right
          rw [h, Int.neg_tmod, tmod_pos (by omega)]
          omega
      obtain ⟨d, hd, hd2, hm, hdiv⟩ := key
      have hw : wrap64 (Int.tdiv x 10) = Int.tdiv x 10 := w64 (by omega) (by omega)
      have fin : ∀ r : ByteArray, r.data.toList = (if b = true then [45] else []) ++ dd (Int.tdiv x 10).natAbs ++ (strOfNums [48 + (d : Int)] ++ acc).data.toList → r.data.toList = (if b = true then [45] else []) ++ dd x.natAbs ++ acc.data.toList := by
        intro r hr
        rw [hr, hdiv, dd_step (u := x.natAbs) (by omega), ByteArray.data_append, Array.toList_append, one_data _ (by omega), ← hd2]
        simp
      obtain ⟨r, e, hr⟩ := ih (Int.tdiv x 10) (strOfNums [48 + (d : Int)] ++ acc) (by omega) (by omega) (by omega) (by rw [ByteArray.size_append, str_size]; simp; omega)
      have hs : (strOfNums [48 + (d : Int)]).size + acc.size ≤ 9223372036854775807 := by rw [str_size]; simp; omega
      by_cases hneg : Int.tmod x 10 < 0
      · rw [if_pos hneg]
        have e1 : wrap64 (-(Int.tmod x 10)) = (d : Int) := by rw [w64 (by omega) (by omega)]; omega
        rw [e1, figure_val (by omega) (by omega), Option.bind_some, Option.bind_some, if_pos hs, hw, e]
        exact ⟨r, rfl, fin r hr⟩
      · rw [if_neg hneg]
        have e1 : Int.tmod x 10 = (d : Int) := by omega
        rw [e1, figure_val (by omega) (by omega), Option.bind_some, Option.bind_some, if_pos hs, hw, e]
        exact ⟨r, rfl, fin r hr⟩
theorem spec_dec (n : Int) (h0 : -9223372036854775808 ≤ n) (h1 : n ≤ 9223372036854775807) : ∃ r : ByteArray, spec_Decimal.f 21 n = some r ∧ r.data.toList = Lib.itoa n := by
  unfold spec_Decimal.f Lib.itoa
  by_cases hz : n = 0
  · subst hz
    rw [if_pos rfl, if_neg (by decide)]
    exact ⟨_, rfl, by rw [Lib.decDigits, dif_pos (by decide)]; rfl⟩
  · rw [if_neg hz]
    obtain ⟨r, e, hr⟩ := dec_loop (decide (n < 0)) 20 n ⟨#[]⟩ (by have : (10 : Nat) ^ 20 = 100000000000000000000 := rfl; omega) (by omega) (by omega) (by simp [ByteArray.size])
    refine ⟨r, e, ?_⟩
    have h2 : dd n.natAbs = Lib.decDigits n.natAbs := if_neg (by omega)
    rw [hr, h2]
    by_cases hn : n < 0
    · rw [if_pos hn, decide_eq_true hn, if_pos rfl]
      simp
    · rw [if_neg hn, decide_eq_false hn, if_neg (by decide), show n.natAbs = n.toNat by omega]
      simp
theorem impl_dec (n : Int) (h0 : -9223372036854775808 ≤ n) (h1 : n ≤ 9223372036854775807) : impl_Decimal.f n = some ⟨(Lib.itoa n).toArray⟩ := by
  unfold impl_Decimal.f strconv_Itoa.f
  rw [if_pos h0, if_pos h1]
  rfl

def pv (l : List UInt8) : Nat := l.foldl (fun n c => 10 * n + (c.toNat - 48)) 0
theorem pv_snoc (l : List UInt8) (c : UInt8) : pv (l ++ [c]) = 10 * pv l + (c.toNat - 48) := by simp [pv]
theorem dec_facts (u : Nat) : pv (Lib.decDigits u) = u ∧ (∀ c ∈ Lib.decDigits u, 48 ≤ c.toNat ∧ c.toNat ≤ 57) ∧ 0 < (Lib.decDigits u).length ∧ ∀ k, u < 10 ^ (k + 1) → (Lib.decDigits u).length ≤ k + 1 := by
  induction u using Nat.strongRecOn with
  | ind u ih =>
    by_cases h : u < 10
    · rw [Lib.decDigits, dif_pos h]
      have hc : (UInt8.ofNat (48 + u)).toNat = 48 + u := by rw [UInt8.toNat_ofNat']; omega
      refine ⟨by (simp [pv]; omega), fun c hm => ?_, by simp, fun k _ => by simp⟩
      rw [List.mem_singleton.1 hm, hc]
      omega
    · rw [Lib.decDigits, dif_neg h]
      obtain ⟨h1, h2, h3, h4⟩ := ih (u / 10) (by omega)
      have hc : (UInt8.ofNat (48 + u % 10)).toNat = 48 + u % 10 := by rw [UInt8.toNat_ofNat']; omega
      refine ⟨?_, fun c hm => ?_, by simp, fun k hk => ?_⟩
      · rw [pv_snoc, h1, hc]
        omega
      · rcases List.mem_append.1 hm with hm | hm
        · exact h2 c hm
        · rw [List.mem_singleton.1 hm, hc]
          omega
      · rw [List.length_append, List.length_singleton]
        cases k with
        | zero => simp at hk; omega
        | succ k =>
          have := h4 k (by rw [Nat.pow_succ] at hk; omega)
          omega

theorem all_rounds {α : Type} {g : Nat → Option α} (hg : ∀ k, LeO (g k) (g (k + 1))) (k : Nat) (r : α) (h : g k = some r) : ∀ m, g (k + m) = some r
  | 0 => h
  | m + 1 => hg (k + m) r (all_rounds hg k r h m)

def Snd (x : ByteArray) (r : Int × Bool) : Prop := (r.2 = true → 0 ≤ r.1 ∧ r.1 ≤ 1000000000 ∧ Lib.itoa r.1 = x.data.toList) ∧ (r.2 = false → r.1 = 0)
theorem snd_no (x : ByteArray) : Snd x (0, false) := ⟨(fun h => by cases h), fun _ => rfl⟩
theorem read_loop (x : ByteArray) (hx : x.size ≤ 10) (d : Nat) : ∀ (i : Nat) (n : Int), x.size - i = d → i ≤ x.size → 0 ≤ n → n < 10 ^ i →
    ∃ r : Int × Bool, spec_ReadDecimal.l0 (d + 22) x n (i : Int) = some r ∧ Snd x r ∧ ∀ k, d < k → impl_ReadDecimal.l0 k x n (i : Int) = some r := by
  induction d with
  | zero =>
    intro i n hd hi h0 h1
    have hp : (10 : Int) ^ i ≤ 10 ^ 10 := by
      have h := Nat.pow_le_pow_right (n := 10) (by decide) (show i ≤ 10 by omega)
      exact_mod_cast h
    have hp2 : (10 : Int) ^ 10 = 10000000000 := by decide
    by_cases hb : n > 1000000000
    · refine ⟨(0, false), ?_, snd_no x, fun k hk => ?_⟩
      · rw [spec_ReadDecimal.l0, if_neg (by omega), if_pos hb]
      · obtain ⟨k, rfl⟩ : ∃ m, k = m + 1 := ⟨k - 1, by omega⟩
        rw [impl_ReadDecimal.l0, if_neg (by omega), if_pos hb]
    · obtain ⟨q, e, hq⟩ := spec_dec n (by omega) (by omega)
      have e2 := impl_dec n (by omega) (by omega)
      refine ⟨if Lib.itoa n = x.toList then (n, true) else (0, false), ?_, ?_, fun k hk => ?_⟩
      · rw [show 0 + 22 = 21 + 1 by rfl, spec_ReadDecimal.l0, if_neg (by omega), if_neg hb, e, Option.bind_some, Lib.toList_data, hq]
        split <;> rfl
      · by_cases hx : Lib.itoa n = x.toList
        · rw [if_pos hx]
          exact ⟨fun _ => ⟨h0, by simp only; omega, by rw [hx, Lib.toList_data]⟩, (fun h => by cases h)⟩
        · rw [if_neg hx]
          exact snd_no x
      · obtain ⟨k, rfl⟩ : ∃ m, k = m + 1 := ⟨k - 1, by omega⟩
        rw [impl_ReadDecimal.l0, if_neg (by omega), if_neg hb, e2, Option.bind_some, Lib.toList_data]
        split <;> rfl
  | succ d ih =>
    intro i n hd hi h0 h1
    have hp : (10 : Int) ^ i ≤ 10 ^ 10 := by
      have h := Nat.pow_le_pow_right (n := 10) (by decide) (show i ≤ 10 by omega)
      exact_mod_cast h
    have hp2 : (10 : Int) ^ 10 = 10000000000 := by decide
    have hp3 : (10 : Int) ^ (i + 1) = 10 ^ i * 10 := Int.pow_succ 10 i
    have c1 : (i : Int) < (x.size : Int) := by omega
    have c2 : (0 : Int) ≤ (i : Int) := by omega
    obtain ⟨b0, b1⟩ := bt_range x (i : Int)
    generalize hc : bt x (i : Int) = c at *
    by_cases l1 : c < 48
    · refine ⟨(0, false), ?_, snd_no x, fun k hk => ?_⟩
      · rw [spec_ReadDecimal.l0, if_pos c1, if_pos c2, hc, if_pos l1]
      · obtain ⟨k, rfl⟩ : ∃ m, k = m + 1 := ⟨k - 1, by omega⟩
        rw [impl_ReadDecimal.l0, if_pos c1, if_pos c2, hc, if_pos l1]
    · by_cases l2 : c > 57
      · refine ⟨(0, false), ?_, snd_no x, fun k hk => ?_⟩
        · rw [spec_ReadDecimal.l0, if_pos c1, if_pos c2, hc, if_neg l1, if_pos l2]
        · obtain ⟨k, rfl⟩ : ∃ m, k = m + 1 := ⟨k - 1, by omega⟩
          rw [impl_ReadDecimal.l0, if_pos c1, if_pos c2, hc, if_neg l1, if_pos l2]
      · obtain ⟨r, e, hs, g⟩ := ih (i + 1) (10 * n + c - 48) (by omega) (by omega) (by omega) (by omega)
        refine ⟨r, ?_, hs, fun k hk => ?_⟩
        · rw [show d + 1 + 22 = (d + 22) + 1 by omega, spec_ReadDecimal.l0, if_pos c1, if_pos c2, hc, if_neg l1, if_neg l2, w64 (n := 10 * n) (by omega) (by omega), w64 (n := c) (by omega) (by omega), w64 (n := 10 * n + c) (by omega) (by omega), w64 (n := 10 * n + c - 48) (by omega) (by omega), w64 (n := (i : Int) + 1) (by omega) (by omega),
            show (i : Int) + 1 = ((i + 1 : Nat) : Int) by omega]
          exact e
        · obtain ⟨k, rfl⟩ : ∃ m, k = m + 1 := ⟨k - 1, by omega⟩
          rw [impl_ReadDecimal.l0, if_pos c1, if_pos c2, hc, if_neg l1, if_neg l2, w64 (n := n * 10) (by omega) (by omega), show (c - 48) % 256 = c - 48 by omega, w64 (n := n * 10 + (c - 48)) (by omega) (by omega), w64 (n := (i : Int) + 1) (by omega) (by omega),
            show (i : Int) + 1 = ((i + 1 : Nat) : Int) by omega, show n * 10 + (c - 48) = 10 * n + c - 48 by omega]
          exact g k (by omega)
theorem read_same (a : ByteArray) : ∃ r : Int × Bool, spec_ReadDecimal.f (a.size + 22) a = some r ∧ impl_ReadDecimal.f (a.size + 22) a = some r ∧ Snd a r := by
  unfold spec_ReadDecimal.f impl_ReadDecimal.f
  by_cases hb : (a.size : Int) > 10
  · rw [if_pos hb, if_neg (by omega), decide_eq_true hb]
    exact ⟨_, rfl, rfl, snd_no a⟩
  · rw [if_neg hb]
    by_cases hz : (a.size : Int) = 0
    · rw [if_pos hz]
      refine ⟨(0, false), ?_, rfl, snd_no a⟩
      obtain ⟨q, e, hq⟩ := spec_dec 0 (by omega) (by omega)
      have h0 : a.data.toList = [] := by
        have h1 : a.data.toList.length = a.size := by simp
        exact List.eq_nil_of_length_eq_zero (by omega)
      have h2 : Lib.itoa 0 = [48] := by
        unfold Lib.itoa
        rw [if_neg (by decide), Lib.decDigits, dif_pos (by decide)]
        rfl
      rw [show a.size + 22 = 21 + 1 by omega, spec_ReadDecimal.l0, if_neg (by omega), if_neg (by decide), e, Option.bind_some, Lib.toList_data, Lib.toList_data, hq, h0, h2, if_neg (by simp)]
    · rw [if_neg hz, decide_eq_false hb]
      obtain ⟨r, e, hs, g⟩ := read_loop a (by omega) a.size 0 0 (by omega) (by omega) (by omega) (by decide)
      refine ⟨r, e, ?_, hs⟩
      rw [show a.size + 22 = (a.size + 21) + 1 by omega, impl_ReadDecimal.j0, if_neg (by decide)]
      exact g _ (by omega)
def RD (w : ByteArray) : Int × Bool := (impl_ReadDecimal.f (w.size + 22) w).getD (0, false)
theorem RD_facts (w : ByteArray) : (∀ k, w.size + 22 ≤ k → spec_ReadDecimal.f k w = some (RD w)) ∧ (∀ k, w.size + 22 ≤ k → impl_ReadDecimal.f k w = some (RD w)) ∧ Snd w (RD w) := by
  obtain ⟨r, e1, e2, hs⟩ := read_same w
  have hr : RD w = r := by unfold RD; rw [e2]; rfl
  rw [hr]
  refine ⟨fun k hk => ?_, fun k hk => ?_, hs⟩
  · obtain ⟨m, rfl⟩ : ∃ m, k = w.size + 22 + m := ⟨k - (w.size + 22), by omega⟩
    exact all_rounds (g := fun k => spec_ReadDecimal.f k w) (spec_ReadDecimal.mono w) (w.size + 22) r e1 m
  · obtain ⟨m, rfl⟩ : ∃ m, k = w.size + 22 + m := ⟨k - (w.size + 22), by omega⟩
    exact all_rounds (g := fun k => impl_ReadDecimal.f k w) (impl_ReadDecimal.mono w) (w.size + 22) r e2 m
theorem itoa_zero : Lib.itoa 0 = [48] := by
  unfold Lib.itoa
  rw [if_neg (by decide), Lib.decDigits, dif_pos (by decide)]
  rfl
theorem itoa_neg {n : Int} (h : 0 < n) : Lib.itoa (-n) = 45 :: Lib.itoa n := by
  unfold Lib.itoa
  rw [if_pos (by omega), if_neg (by omega)]
  congr 2
  omega
/-- What a word with or without a sign reads as: the program's way, the reference's way. -/
def SI (w : ByteArray) : Int × Bool := if Lib.hasPrefix w.data.toList [45] then (-(RD (mk (w.data.toList.drop 1))).1, (RD (mk (w.data.toList.drop 1))).2) else RD w
def SS (w : ByteArray) : Int × Bool := if 1 < w.size ∧ Lib.hasPrefix w.data.toList [45] = true then (-(RD (mk (w.data.toList.drop 1))).1, (RD (mk (w.data.toList.drop 1))).2 && decide ((RD (mk (w.data.toList.drop 1))).1 > 0)) else RD w
theorem RD_range (w : ByteArray) : 0 ≤ (RD w).1 ∧ (RD w).1 ≤ 1000000000 := by
  obtain ⟨_, _, h1, h2⟩ := RD_facts w
  cases h : (RD w).2
  · rw [h2 h]; omega
  · have := h1 h; omega
theorem prefix_minus (l : List UInt8) : Lib.hasPrefix l [45] = true ↔ ∃ t, l = 45 :: t := by
  unfold Lib.hasPrefix
  rw [List.isPrefixOf_iff_prefix]
  constructor
  · rintro ⟨t, rfl⟩
    exact ⟨t, rfl⟩
  · rintro ⟨t, rfl⟩
    exact ⟨t, rfl⟩
theorem impl_signed (w : ByteArray) (k : Nat) (hk : w.size + 25 ≤ k) : impl_readSigned.f k w = some (SI w) := by
  unfold impl_readSigned.f strings_CutPrefix.f SI
  rw [Option.bind_some]
  simp only
  by_cases h : Lib.hasPrefix w.data.toList [45] = true
  · have hz : (mk (w.data.toList.drop 1)).size ≤ w.size := by rw [mk_size, List.length_drop, Lib.size_eq]; omega
    have hr := RD_range (mk (w.data.toList.drop 1))
    have ht : (⟨(Lib.trimPrefix w.data.toList [45]).toArray⟩ : ByteArray) = mk (w.data.toList.drop 1) := by
      unfold Lib.trimPrefix
      rw [if_pos h]
      rfl
    rw [ht, (RD_facts _).2.1 k (by omega), Option.bind_some, if_pos h, if_pos h, w64 (by omega) (by omega)]
  · have ht : (⟨(Lib.trimPrefix w.data.toList [45]).toArray⟩ : ByteArray) = w := by
      unfold Lib.trimPrefix
      rw [if_neg h]
    rw [ht, (RD_facts w).2.1 k (by omega), Option.bind_some, if_neg h, if_neg h]
theorem spec_signed (w : ByteArray) (k : Nat) (hk : w.size + 25 ≤ k) : spec_l06Signed.f k w = some (SS w) := by
  obtain ⟨k, rfl⟩ : ∃ m, k = m + 1 := ⟨k - 1, by omega⟩
  have hs := Lib.size_eq w
  unfold spec_l06Signed.f SS
  by_cases h1 : 1 < w.size
  · obtain ⟨c, t, hct⟩ : ∃ c t, w.data.toList = c :: t := by
      cases hl : w.data.toList with
      | nil => rw [hl, List.length_nil] at hs; omega
      | cons c t => exact ⟨c, t, rfl⟩
    have hb : bt w 0 = (c.toNat : Int) := by
      have h := bt_list w 0 (by rw [← hs]; omega)
      simpa [hct] using h
    rw [if_pos (show (w.size : Int) > 1 by omega), if_pos (show (0 : Int) < (w.size : Int) by omega), hb]
    by_cases hc : c = 45
    · subst hc
      have hp : Lib.hasPrefix w.data.toList [45] = true := (prefix_minus _).2 ⟨t, hct⟩
      have hx : w.extract 1 w.size = mk (w.data.toList.drop 1) := by
        rw [mk_extract, List.take_of_length_le (by rw [List.length_drop]; omega)]
      have hz : (mk (w.data.toList.drop 1)).size ≤ w.size := by rw [mk_size, List.length_drop, Lib.size_eq]; omega
      have hr := RD_range (mk (w.data.toList.drop 1))
      rw [show (((45 : UInt8).toNat : Int) == 45) = true from rfl, spec_l06Signed.j0, if_pos rfl, if_pos (by omega), hx, (RD_facts _).1 k (by omega), Option.bind_some, if_pos (show 1 < w.size ∧ Lib.hasPrefix w.data.toList [45] = true from ⟨h1, hp⟩), w64 (by omega) (by omega)]
      cases (RD (mk (w.data.toList.drop 1))).2 <;> simp
    · have hp : ¬ Lib.hasPrefix w.data.toList [45] = true := fun h => by
        obtain ⟨t', ht'⟩ := (prefix_minus _).1 h
        rw [hct] at ht'
        injection ht' with e _
        exact hc e
      have hn : ((c.toNat : Int) == 45) = false := by
        rw [beq_eq_false_iff_ne]
        intro e
        exact hc (UInt8.toNat_inj.1 (by show c.toNat = 45; omega))
      rw [hn, spec_l06Signed.j0, if_neg (by decide), (RD_facts w).1 k (by omega), Option.bind_some, if_neg (fun h => hp h.2)]
  · rw [if_neg (by omega), spec_l06Signed.j0, if_neg (by decide), (RD_facts w).1 k (by omega), Option.bind_some, if_neg (fun h => h1 h.1)]
/-- What the reference reads the program reads, too, and the word is the number's own text; what the program alone reads is longer than that text. -/
theorem signs (w : ByteArray) : ((SS w).2 = true → SI w = SS w) ∧ ((SI w).2 = true → (Lib.itoa (SI w).1).length ≤ w.size ∧ ((SS w).2 = false → (Lib.itoa (SI w).1).length < w.size) ∧ ((SS w).2 = true → Lib.itoa (SI w).1 = w.data.toList)) := by
  have hs := Lib.size_eq w
  by_cases hp : Lib.hasPrefix w.data.toList [45] = true
  · obtain ⟨t, ht⟩ := (prefix_minus _).1 hp
    have hd : w.data.toList.drop 1 = t := by rw [ht]; rfl
    have hl : w.size = t.length + 1 := by rw [hs, ht, List.length_cons]
    obtain ⟨_, _, f1, f2⟩ := RD_facts (mk t)
    have e1 : SI w = (-(RD (mk t)).1, (RD (mk t)).2) := by unfold SI; rw [if_pos hp, hd]
    by_cases h1 : 1 < w.size
    · have e2 : SS w = (-(RD (mk t)).1, (RD (mk t)).2 && decide ((RD (mk t)).1 > 0)) := by unfold SS; rw [if_pos ⟨h1, hp⟩, hd]
      rw [e1, e2]
      refine ⟨fun h => ?_, fun h => ?_⟩
      · have h : ((RD (mk t)).2 && decide ((RD (mk t)).1 > 0)) = true := h
        have h2 := h
        rw [Bool.and_eq_true] at h2
        rw [h, h2.1]
      · have h : (RD (mk t)).2 = true := h
        obtain ⟨g1, g2, g3⟩ := f1 h
        have g3 : Lib.itoa (RD (mk t)).1 = t := g3
        simp only [h, Bool.true_and]
        by_cases hz : (RD (mk t)).1 > 0
        · rw [itoa_neg hz, decide_eq_true hz, g3, ht]
          exact ⟨by rw [List.length_cons]; omega, (fun h => by cases h), fun _ => rfl⟩
        · have hz : (RD (mk t)).1 = 0 := by omega
          rw [hz] at g3 ⊢
          rw [itoa_zero] at g3
          have : t.length = 1 := by rw [← g3]; rfl
          rw [show (-(0 : Int)) = 0 from rfl, itoa_zero]
          exact ⟨by rw [List.length_singleton]; omega, fun _ => by rw [List.length_singleton]; omega, fun h => by simp at h⟩
    · have e2 : SS w = RD w := by unfold SS; rw [if_neg (fun h => h1 h.1)]
      have ht0 : t = [] := List.eq_nil_of_length_eq_zero (by omega)
      have no : ∀ s : ByteArray, s.data.toList = [] ∨ s.data.toList = [45] → (RD s).2 = false := by
        intro s hs
        cases h : (RD s).2 with
        | false => rfl
        | true =>
          obtain ⟨_, _, f1, _⟩ := RD_facts s
          obtain ⟨g1, g2, g3⟩ := f1 h
          obtain ⟨d1, d2, d3, _⟩ := dec_facts (RD s).1.toNat
          have hi : Lib.itoa (RD s).1 = Lib.decDigits (RD s).1.toNat := by unfold Lib.itoa; rw [if_neg (by omega)]
          rw [hi] at g3
          rw [g3] at d2 d3
          rcases hs with hs | hs
          · rw [hs] at d3; simp at d3
          · rw [hs] at d2
            have := (d2 45 (by simp)).1
            exact absurd this (by decide)
      rw [e1, e2]
      have a1 := no (mk t) (.inl (by rw [mk_data]; exact ht0))
      have a2 := no w (.inr (by rw [ht, ht0]))
      refine ⟨(fun h => by rw [a2] at h; cases h), fun h => ?_⟩
      have h : (RD (mk t)).2 = true := h
      rw [a1] at h
      cases h
  · have e1 : SI w = RD w := by unfold SI; rw [if_neg hp]
    have e2 : SS w = RD w := by unfold SS; rw [if_neg (fun h => hp h.2)]
    rw [e1, e2]
    refine ⟨fun _ => rfl, fun h => ?_⟩
    obtain ⟨_, _, f1, _⟩ := RD_facts w
    obtain ⟨_, _, g3⟩ := f1 h
    rw [g3, hs]
    exact ⟨Nat.le_refl _, (fun h2 => by rw [h] at h2; cases h2), fun _ => rfl⟩

theorem rdS (l : List ByteArray) (i : Nat) (h : i < l.length) : rdOf ByteArray.empty l (i : Int) = l[i] := by
  simp [rdOf, List.getD_eq_getElem?_getD, List.getElem?_eq_getElem h]

/-! ### the words of a path -/
def letterB (a : Int) : UInt8 := if a = 1 then 77 else if a = 2 then 76 else if a = 3 then 81 else if a = 4 then 67 else 90
def pairW (q : S55) : List (List UInt8) := [Lib.itoa q.f0, Lib.itoa q.f1]
def pathW : List Int → List S55 → List (List UInt8)
  | [], _ => []
  | v :: vs, p => [letterB v] :: ((p.take (needI v).toNat).flatMap pairW ++ pathW vs (p.drop (needI v).toNat))
def needs (v : List Int) : Nat := (v.map fun a => (needI a).toNat).sum
def pathT (v : List Int) (p : List S55) : List UInt8 := J (pathW v p)
theorem needs_cons (a : Int) (v : List Int) : needs (a :: v) = (needI a).toNat + needs v := by simp [needs]
theorem scan_facts : ∀ (v : List Int) (b : Bool) (m r : Int), scanV v b m = some r → (∀ a ∈ v, 0 ≤ needI a) ∧ r = m + (needs v : Int)
  | [], _, m, r, h => by
    have h : some m = some r := h
    injection h with h
    exact ⟨by simp, by simp [needs, h]⟩
  | a :: v, b, m, r, h => by
    unfold scanV at h
    by_cases h1 : needI a < 0
    · rw [if_pos h1] at h; cases h
    · rw [if_neg h1] at h
      split at h
      · cases h
      · obtain ⟨h2, h3⟩ := scan_facts v _ _ r h
        refine ⟨fun x hx => ?_, ?_⟩
        · rcases List.mem_cons.1 hx with rfl | hx
          · omega
          · exact h2 x hx
        · rw [h3, needs_cons]; omega
theorem path_facts {v : List Int} {p : List S55} (h : pathB v p = true) : v.length ≤ 24 ∧ p.length ≤ 24 ∧ (∀ a ∈ v, 0 ≤ needI a) ∧ needs v = p.length ∧ ∀ q ∈ p, (-8388608 ≤ q.f0 ∧ q.f0 ≤ 8388608) ∧ (-8388608 ≤ q.f1 ∧ q.f1 ≤ 8388608) := by
  unfold pathB at h
  split at h
  · cases h
  · rename_i h1
    rw [Bool.and_eq_true] at h
    obtain ⟨h2, h3⟩ := h
    cases hs : scanV v true 0 with
    | none => rw [hs] at h3; cases h3
    | some m =>
      rw [hs] at h3
      obtain ⟨h4, h5⟩ := scan_facts v true 0 m hs
      have h6 : m = (p.length : Int) := by simpa using h3
      refine ⟨by omega, by omega, h4, by omega, fun q hq => ?_⟩
      have h7 := List.all_eq_true.1 h2 q hq
      unfold okP at h7
      rw [Bool.and_eq_true, farB_true, farB_true] at h7
      exact h7
theorem digits_len (u : Nat) : ∀ k, u < 10 ^ (k + 1) → (Lib.decDigits u).length ≤ k + 1 := by
  induction u using Nat.strongRecOn with
  | ind u ih =>
    intro k hk
    by_cases h : u < 10
    · rw [Lib.decDigits, dif_pos h]; simp
    · rw [Lib.decDigits, dif_neg h, List.length_append, List.length_singleton]
      cases k with
      | zero => simp at hk; omega
      | succ k =>
        have := ih (u / 10) (by omega) k (by rw [Nat.pow_succ] at hk; omega)
        omega
theorem itoa_len {x : Int} (h0 : -8388608 ≤ x) (h1 : x ≤ 8388608) : (Lib.itoa x).length ≤ 8 := by
  unfold Lib.itoa
  have h := digits_len x.natAbs 6 (by omega)
  have h' := digits_len x.toNat 6 (by omega)
  repeat (first | split | (simp only [List.length_cons]; omega) | omega | (simp; omega))
/-- Words one by one. -/
theorem rd_app (pre : List Int) (a : Int) (vs : List Int) : rd (pre ++ a :: vs) (pre.length : Int) = a := by
  rw [rdI _ _ (by simp)]
  simp
theorem rdP_app (pre : List S55) (a : S55) (vs : List S55) : rd_T55 (pre ++ a :: vs) (pre.length : Int) = a := by
  rw [rdP _ _ (by simp)]
  simp
theorem five {a : Int} (h : 0 ≤ needI a) : a = 1 ∨ a = 2 ∨ a = 3 ∨ a = 4 ∨ a = 5 := by
  have := needI_ok h
  omega

theorem impl_text_points (v : List Int) (p : List S55) (hp : p.length ≤ 24) (nv n : Int) (h0 : 0 ≤ n) (hn : n ≤ 3) : ∀ (r : Nat) (done qs rest : List S55) (k : Nat) (acc : List ByteArray) (i j : Int), p = done ++ (qs ++ rest) → qs.length = r → 0 ≤ j → j + (r : Int) = n →
    (∀ q ∈ qs, (-8388608 ≤ q.f0 ∧ q.f0 ≤ 8388608) ∧ (-8388608 ≤ q.f1 ∧ q.f1 ≤ 8388608)) → acc.length + 2 * r ≤ 1000 →
    impl_PathText.l1 (k + r + 1) acc (done.length : Int) v nv i n j v p = impl_PathText.l0 k (acc ++ (qs.flatMap pairW).map mk) ((done.length + r : Nat) : Int) v nv (wrap64 (i + 1)) v p := by
  intro r
  induction r with
  | zero =>
    intro done qs rest k acc i j he hl hj hjn _ _
    obtain rfl : qs = [] := List.eq_nil_of_length_eq_zero hl
    rw [impl_PathText.l1, if_neg (by omega)]
    simp
  | succ r ih =>
    intro done qs rest k acc i j he hl hj hjn hq ha
    cases qs with
    | nil => cases hl
    | cons q qs =>
      have hlt : done.length < p.length := by rw [he]; simp
      obtain ⟨⟨a1, a2⟩, b1, b2⟩ := hq q List.mem_cons_self
      have hr : rd_T55 p (done.length : Int) = q := by rw [he, List.cons_append]; exact rdP_app done q _
      rw [show k + (r + 1) + 1 = (k + r + 1) + 1 by omega, impl_PathText.l1, if_pos (by omega), if_pos (by omega), if_pos (by omega), hr, impl_dec _ (by omega) (by omega), impl_dec _ (by omega) (by omega), Option.bind_some, Option.bind_some, Option.bind_some,
        if_pos (by simp only [List.length_cons, List.length_nil]; omega), w64 (n := (done.length : Int) + 1) (by omega) (by omega), w64 (n := j + 1) (by omega) (by omega)]
      have h := ih (done ++ [q]) qs rest k (acc ++ [mk (Lib.itoa q.f0), mk (Lib.itoa q.f1)]) i (j + 1) (by rw [he]; simp) (by simpa using hl) (by omega) (by omega) (fun x hx => hq x (List.mem_cons_of_mem _ hx)) (by simp; omega)
      rw [List.length_append, List.length_singleton] at h
      rw [show (done.length : Int) + 1 = ((done.length + 1 : Nat) : Int) by omega]
      refine h.trans ?_
      congr 1
      · simp [pairW]
      · omega
theorem J_small (L : List (List UInt8)) (h : ∀ x ∈ L, x.length ≤ 20) : (J L).length ≤ 21 * L.length := by
  cases L with
  | nil => simp [J_nil]
  | cons x r =>
    rw [J_length]
    have hl : ∀ M : List (List UInt8), (∀ x ∈ M, x.length ≤ 20) → Lib.lens M ≤ 20 * M.length := by
      intro M
      induction M with
      | nil => intro _; simp [Lib.lens]
      | cons y M ih =>
        intro hM
        have h1 := hM y List.mem_cons_self
        have h2 := ih (fun z hz => hM z (List.mem_cons_of_mem _ hz))
        simp only [Lib.lens, List.map_cons, List.sum_cons, List.length_cons] at h2 ⊢
        omega
    have := hl (x :: r) h
    simp only [List.length_cons] at this ⊢
    omega
theorem pairs_small (qs : List S55) (h : ∀ q ∈ qs, (-8388608 ≤ q.f0 ∧ q.f0 ≤ 8388608) ∧ (-8388608 ≤ q.f1 ∧ q.f1 ≤ 8388608)) : ∀ x ∈ qs.flatMap pairW, x.length ≤ 20 := by
  intro x hx
  obtain ⟨q, hq, hx⟩ := List.mem_flatMap.1 hx
  obtain ⟨⟨a1, a2⟩, b1, b2⟩ := h q hq
  have h1 := itoa_len a1 a2
  have h2 := itoa_len b1 b2
  simp only [pairW, List.mem_cons, List.mem_nil_iff, or_false] at hx
  rcases hx with rfl | rfl <;> omega
theorem pairs_length (qs : List S55) : (qs.flatMap pairW).length = 2 * qs.length := by
  induction qs with
  | nil => rfl
  | cons q qs ih => simp only [List.flatMap_cons, List.length_append, List.length_cons, pairW, ih, List.length_nil]; omega
theorem letter_cut {a : Int} (h : 0 ≤ needI a) : (⟨#[77, 76, 81, 67, 90]⟩ : ByteArray).extract (a - 1).toNat a.toNat = mk [letterB a] := by
  rcases five h with rfl | rfl | rfl | rfl | rfl <;> decide +kernel
theorem impl_text_loop (v : List Int) (p : List S55) (hv : v.length ≤ 24) (hp : p.length ≤ 24) : ∀ (vs pre : List Int) (ps done : List S55) (k : Nat) (acc : List ByteArray), v = pre ++ vs → p = done ++ ps → (∀ a ∈ vs, 0 ≤ needI a) → needs vs = ps.length →
    (∀ q ∈ ps, (-8388608 ≤ q.f0 ∧ q.f0 ≤ 8388608) ∧ (-8388608 ≤ q.f1 ∧ q.f1 ≤ 8388608)) → acc.length ≤ pre.length + 2 * done.length → (∀ x ∈ acc, x.data.toList.length ≤ 20) → 5 * vs.length + 2 ≤ k →
    impl_PathText.l0 k acc (done.length : Int) v (v.length : Int) (pre.length : Int) v p = some (mk (J (acc.map (fun x => x.data.toList) ++ pathW vs ps)), true) := by
  intro vs
  induction vs with
  | nil =>
    intro pre ps done k acc he hpe _ _ _ hacc hsm hk
    obtain ⟨k, rfl⟩ : ∃ m, k = m + 1 := ⟨k - 1, by omega⟩
    rw [List.append_nil] at he
    subst he
    have hd : done.length ≤ 24 := by rw [hpe, List.length_append] at hp; omega
    have hj := J_small (acc.map fun x => x.data.toList) (fun x hx => by
      obtain ⟨y, hy, rfl⟩ := List.mem_map.1 hx
      exact hsm y hy)
    rw [List.length_map] at hj
    rw [impl_PathText.l0, if_neg (by omega), strings_Join.f, if_pos (by omega), if_pos (by
      show (J (acc.map fun x => x.data.toList)).length ≤ _
      omega), Option.bind_some, pathW, List.append_nil]
    rfl
  | cons a vs ih =>
    intro pre ps done k acc he hpe hn hnl hq hacc hsm hk
    have ha := hn a List.mem_cons_self
    have hf := five ha
    have hni := needI_in a
    rw [needs_cons] at hnl
    rw [List.length_cons] at hk
    have hd : done.length + ps.length ≤ 24 := by rw [hpe, List.length_append] at hp; exact hp
    have hpre : pre.length + (vs.length + 1) ≤ 24 := by rw [he, List.length_append, List.length_cons] at hv; exact hv
    have hvl : v.length = pre.length + (vs.length + 1) := by rw [he, List.length_append, List.length_cons]
    have hr : rd v (pre.length : Int) = a := by rw [he]; exact rd_app pre a vs
    obtain ⟨k, rfl⟩ : ∃ m, k = (m + (needI a).toNat + 1) + 1 := ⟨k - 2 - (needI a).toNat, by omega⟩
    rw [impl_PathText.l0, if_pos (by omega), if_pos (by omega), if_pos (by omega), hr, w64 (n := a - 1) (by omega) (by omega), if_pos (by omega), if_pos (by omega), if_pos (by omega), if_pos (by omega), impl_need, Option.bind_some, letter_cut ha]
    have hlen : (ps.take (needI a).toNat).length = (needI a).toNat := by rw [List.length_take]; omega
    have h1 := impl_text_points v p hp (v.length : Int) (needI a) ha hni.2 (needI a).toNat done (ps.take (needI a).toNat) (ps.drop (needI a).toNat) k (acc ++ [mk [letterB a]]) (pre.length : Int) 0
      (by rw [List.take_append_drop]; exact hpe) hlen (by omega) (by omega) (fun q hx => hq q (List.mem_of_mem_take hx)) (by rw [List.length_append, List.length_singleton]; omega)
    rw [h1, w64 (n := (pre.length : Int) + 1) (by omega) (by omega)]
    have h2 := ih (pre ++ [a]) (ps.drop (needI a).toNat) (done ++ ps.take (needI a).toNat) k (acc ++ [mk [letterB a]] ++ ((ps.take (needI a).toNat).flatMap pairW).map mk) (by rw [he]; simp) (by rw [List.append_assoc, List.take_append_drop]; exact hpe) (fun x hx => hn x (List.mem_cons_of_mem _ hx)) (by rw [List.length_drop]; omega) (fun q hx => hq q (List.mem_of_mem_drop hx))
      (by simp only [List.length_append, List.length_singleton, List.length_map, pairs_length, hlen]; omega)
      (fun x hx => by
        rcases List.mem_append.1 hx with hx | hx
        · rcases List.mem_append.1 hx with hx | hx
          · exact hsm x hx
          · rw [List.mem_singleton.1 hx]; exact Nat.le_of_ble_eq_true rfl
        · obtain ⟨y, hy, rfl⟩ := List.mem_map.1 hx
          exact pairs_small _ (fun q hx => hq q (List.mem_of_mem_take hx)) y hy) (by omega)
    rw [show (pre ++ [a]).length = pre.length + 1 by simp, show (done ++ ps.take (needI a).toNat).length = done.length + (needI a).toNat by rw [List.length_append, hlen]] at h2
    rw [show (pre.length : Int) + 1 = ((pre.length + 1 : Nat) : Int) by omega, h2, pathW]
    congr 3
    simp only [List.map_append, List.map_cons, List.map_map, mk_data, List.append_assoc, List.cons_append, List.nil_append]
    congr 3
    rw [show ((fun x : ByteArray => x.data.toList) ∘ mk) = id from rfl, List.map_id]
theorem impl_text (v : List Int) (p : List S55) (k : Nat) (hk : 200 ≤ k) : impl_PathText.f k v p = some (if pathB v p = true then (mk (pathT v p), true) else (mk [], false)) := by
  unfold impl_PathText.f
  rw [impl_path v p k (by omega), Option.bind_some]
  by_cases h : pathB v p = true
  · obtain ⟨h1, h2, h3, h4, h5⟩ := path_facts h
    rw [if_pos h, if_pos h]
    exact impl_text_loop v p h1 h2 v [] p [] k [] rfl rfl h3 h4 h5 (by simp) (by simp) (by omega)
  · rw [if_neg h, if_neg h]
    rfl

theorem mk_append (x y : List UInt8) : mk x ++ mk y = mk (x ++ y) := by
  apply data_inj
  simp [mk]
theorem spec_dec_at (n : Int) (h0 : -9223372036854775808 ≤ n) (h1 : n ≤ 9223372036854775807) (k : Nat) (hk : 21 ≤ k) : spec_Decimal.f k n = some (mk (Lib.itoa n)) := by
  obtain ⟨r, e, hr⟩ := spec_dec n h0 h1
  obtain rfl : r = mk (Lib.itoa n) := data_inj hr
  obtain ⟨m, rfl⟩ : ∃ m, k = 21 + m := ⟨k - 21, by omega⟩
  exact all_rounds (g := fun k => spec_Decimal.f k n) (spec_Decimal.mono n) 21 _ e m
theorem spec_text_points (v : List Int) (p : List S55) (hp : p.length ≤ 24) (n : Int) (W : List ByteArray) (a : Int) (hna : needI a = n) (h0 : 0 ≤ n) (hn : n ≤ 3) (i : Int) (hi0 : 0 ≤ i) (hi1 : i < (v.length : Int)) (hra : rd v i = a) : ∀ (r : Nat) (done qs rest : List S55) (k : Nat) (D : List (List UInt8)) (j : Int), p = done ++ (qs ++ rest) → qs.length = r → 0 ≤ j → j + (r : Int) = n →
    (∀ q ∈ qs, (-8388608 ≤ q.f0 ∧ q.f0 ≤ 8388608) ∧ (-8388608 ≤ q.f1 ∧ q.f1 ≤ 8388608)) → D ≠ [] → D.length + 2 * r ≤ 1000 → (∀ x ∈ D, x.length ≤ 20) → 21 ≤ k →
    spec_PathText.l1 (k + r + 1) W (mk (J D)) (done.length : Int) i j v p = spec_PathText.l0 k W (mk (J (D ++ qs.flatMap pairW))) ((done.length + r : Nat) : Int) (wrap64 (i + 1)) v p := by
  intro r
  induction r with
  | zero =>
    intro done qs rest k D j he hl hj hjn _ _ _ _ hk
    obtain rfl : qs = [] := List.eq_nil_of_length_eq_zero hl
    rw [spec_PathText.l1, if_pos hi0, if_pos hi1, hra, spec_need, Option.bind_some, hna, if_neg (by omega)]
    simp
  | succ r ih =>
    intro done qs rest k D j he hl hj hjn hq hD hDl hDs hk
    cases qs with
    | nil => cases hl
    | cons q qs =>
      have hlt : done.length < p.length := by rw [he]; simp
      obtain ⟨⟨a1, a2⟩, b1, b2⟩ := hq q List.mem_cons_self
      have hr : rd_T55 p (done.length : Int) = q := by rw [he, List.cons_append]; exact rdP_app done q _
      have e0 := itoa_len a1 a2
      have e1 := itoa_len b1 b2
      have hJ := J_small D hDs
      have s0 : (mk (J D)).size = (J D).length := mk_size _
      have s1 : (mk (Lib.itoa q.f0)).size = (Lib.itoa q.f0).length := mk_size _
      have s2 : (mk (Lib.itoa q.f1)).size = (Lib.itoa q.f1).length := mk_size _
      have e32 : (⟨#[32]⟩ : ByteArray) = mk [32] := rfl
      rw [show k + (r + 1) + 1 = (k + r + 1) + 1 by omega, spec_PathText.l1, if_pos hi0, if_pos hi1, hra, spec_need, Option.bind_some, hna, if_pos (by omega), if_pos (by omega), if_pos (by omega), if_pos (by omega), hr, spec_dec_at _ (by omega) (by omega) _ (by omega), Option.bind_some, e32, mk_append,
        if_pos (by rw [mk_size, mk_size, List.length_append, List.length_singleton]; omega), mk_append, if_pos (by rw [mk_size, List.length_append, List.length_append, List.length_singleton]; omega), spec_dec_at _ (by omega) (by omega) _ (by omega), Option.bind_some, mk_append,
        if_pos (by rw [mk_size, mk_size, List.length_append, List.length_append, List.length_append, List.length_singleton]; omega), mk_append, w64 (n := (done.length : Int) + 1) (by omega) (by omega), w64 (n := j + 1) (by omega) (by omega)]
      have hj2 : J D ++ [32] ++ Lib.itoa q.f0 ++ [32] ++ Lib.itoa q.f1 = J (D ++ pairW q) := by
        unfold pairW
        rw [show D ++ [Lib.itoa q.f0, Lib.itoa q.f1] = (D ++ [Lib.itoa q.f0]) ++ [Lib.itoa q.f1] by simp, J_snoc _ _ (by simp), J_snoc _ _ hD]
        simp
      rw [hj2]
      have h := ih (done ++ [q]) qs rest k (D ++ pairW q) (j + 1) (by rw [he]; simp) (by simpa using hl) (by omega) (by omega) (fun x hx => hq x (List.mem_cons_of_mem _ hx)) (by simp [pairW]) (by simp [pairW]; omega) (fun x hx => by
        rcases List.mem_append.1 hx with hx | hx
        · exact hDs x hx
        · simp only [pairW, List.mem_cons, List.mem_nil_iff, or_false] at hx
          rcases hx with rfl | rfl <;> omega) hk
      rw [List.length_append, List.length_singleton] at h
      rw [show (done.length : Int) + 1 = ((done.length + 1 : Nat) : Int) by omega]
      refine h.trans ?_
      congr 1
      · simp
      · omega
theorem letter_word {a : Int} (h : 0 ≤ needI a) : rdOf ByteArray.empty [(⟨#[77]⟩ : ByteArray), (⟨#[76]⟩ : ByteArray), (⟨#[81]⟩ : ByteArray), (⟨#[67]⟩ : ByteArray), (⟨#[90]⟩ : ByteArray)] (a - 1) = mk [letterB a] := by
  rcases five h with rfl | rfl | rfl | rfl | rfl <;> rfl
theorem spec_text_loop (v : List Int) (p : List S55) (hv : v.length ≤ 24) (hp : p.length ≤ 24) : ∀ (vs pre : List Int) (ps done : List S55) (k : Nat) (D : List (List UInt8)), v = pre ++ vs → p = done ++ ps → (∀ a ∈ vs, 0 ≤ needI a) → needs vs = ps.length →
    (∀ q ∈ ps, (-8388608 ≤ q.f0 ∧ q.f0 ≤ 8388608) ∧ (-8388608 ≤ q.f1 ∧ q.f1 ≤ 8388608)) → D.length ≤ pre.length + 2 * done.length → (D = [] ↔ pre = []) → (∀ x ∈ D, x.length ≤ 20) → 6 * vs.length + 30 ≤ k →
    spec_PathText.l0 k [(⟨#[77]⟩ : ByteArray), (⟨#[76]⟩ : ByteArray), (⟨#[81]⟩ : ByteArray), (⟨#[67]⟩ : ByteArray), (⟨#[90]⟩ : ByteArray)] (mk (J D)) (done.length : Int) (pre.length : Int) v p = some (mk (J (D ++ pathW vs ps)), true) := by
  intro vs
  induction vs with
  | nil =>
    intro pre ps done k D he hpe _ _ _ _ _ _ hk
    obtain ⟨k, rfl⟩ : ∃ m, k = m + 1 := ⟨k - 1, by omega⟩
    rw [List.append_nil] at he
    subst he
    rw [spec_PathText.l0, if_neg (by omega), pathW, List.append_nil]
  | cons a vs ih =>
    intro pre ps done k D he hpe hn hnl hq hDl hDe hDs hk
    have ha := hn a List.mem_cons_self
    have hf := five ha
    have hni := needI_in a
    rw [needs_cons] at hnl
    rw [List.length_cons] at hk
    have hd : done.length + ps.length ≤ 24 := by rw [hpe, List.length_append] at hp; exact hp
    have hpre : pre.length + (vs.length + 1) ≤ 24 := by rw [he, List.length_append, List.length_cons] at hv; exact hv
    have hvl : v.length = pre.length + (vs.length + 1) := by rw [he, List.length_append, List.length_cons]
    have hr : rd v (pre.length : Int) = a := by rw [he]; exact rd_app pre a vs
    have hJ := J_small D hDs
    have s0 : (mk (J D)).size = (J D).length := mk_size _
    obtain ⟨k, rfl⟩ : ∃ m, k = (m + (needI a).toNat + 1) + 1 + 1 := ⟨k - 3 - (needI a).toNat, by omega⟩
    have hlen : (ps.take (needI a).toNat).length = (needI a).toNat := by rw [List.length_take]; omega
    have hstep : spec_PathText.l0 ((k + (needI a).toNat + 1) + 1 + 1) [(⟨#[77]⟩ : ByteArray), (⟨#[76]⟩ : ByteArray), (⟨#[81]⟩ : ByteArray), (⟨#[67]⟩ : ByteArray), (⟨#[90]⟩ : ByteArray)] (mk (J D)) (done.length : Int) (pre.length : Int) v p
        = spec_PathText.l1 (k + (needI a).toNat + 1) [(⟨#[77]⟩ : ByteArray), (⟨#[76]⟩ : ByteArray), (⟨#[81]⟩ : ByteArray), (⟨#[67]⟩ : ByteArray), (⟨#[90]⟩ : ByteArray)] (mk (J (D ++ [[letterB a]]))) (done.length : Int) (pre.length : Int) 0 v p := by
      have e32 : (⟨#[32]⟩ : ByteArray) = mk [32] := rfl
      have sl : (mk [letterB a]).size = 1 := mk_size _
      rw [spec_PathText.l0, if_pos (by omega)]
      by_cases h : (pre.length : Int) > 0
      · have hne : D ≠ [] := fun e => by rw [hDe.1 e] at h; simp at h
        rw [if_pos h, if_pos (by omega), e32, mk_append, spec_PathText.j1, if_pos (by omega), if_pos (by omega), hr, w64 (n := a - 1) (by omega) (by omega), if_pos (by omega), if_pos (by simp only [List.length_cons, List.length_nil]; omega), letter_word ha, if_pos (by rw [mk_size, sl, List.length_append, List.length_singleton]; omega), mk_append, J_snoc D _ hne]
        simp
      · have hne : D = [] := hDe.2 (List.eq_nil_of_length_eq_zero (by omega))
        subst hne
        rw [if_neg h, spec_PathText.j1, if_pos (by omega), if_pos (by omega), hr, w64 (n := a - 1) (by omega) (by omega), if_pos (by omega), if_pos (by simp only [List.length_cons, List.length_nil]; omega), letter_word ha, if_pos (by rw [mk_size, sl, J_nil, List.length_nil]; omega), mk_append]
        rfl
    rw [hstep]
    have h1 := spec_text_points v p hp (needI a) [(⟨#[77]⟩ : ByteArray), (⟨#[76]⟩ : ByteArray), (⟨#[81]⟩ : ByteArray), (⟨#[67]⟩ : ByteArray), (⟨#[90]⟩ : ByteArray)] a rfl ha hni.2 (pre.length : Int) (by omega) (by omega) hr (needI a).toNat done (ps.take (needI a).toNat) (ps.drop (needI a).toNat) k (D ++ [[letterB a]]) 0
      (by rw [List.take_append_drop]; exact hpe) hlen (by omega) (by omega) (fun q hx => hq q (List.mem_of_mem_take hx)) (by simp) (by rw [List.length_append, List.length_singleton]; omega)
      (fun x hx => by
        rcases List.mem_append.1 hx with hx | hx
        · exact hDs x hx
        · rw [List.mem_singleton.1 hx]; exact Nat.le_of_ble_eq_true rfl) (by omega)
    rw [h1, w64 (n := (pre.length : Int) + 1) (by omega) (by omega)]
    have h2 := ih (pre ++ [a]) (ps.drop (needI a).toNat) (done ++ ps.take (needI a).toNat) k (D ++ [[letterB a]] ++ (ps.take (needI a).toNat).flatMap pairW) (by rw [he]; simp) (by rw [List.append_assoc, List.take_append_drop]; exact hpe) (fun x hx => hn x (List.mem_cons_of_mem _ hx)) (by rw [List.length_drop]; omega) (fun q hx => hq q (List.mem_of_mem_drop hx))
      (by simp only [List.length_append, List.length_singleton, pairs_length, hlen]; omega) (by simp)
      (fun x hx => by
        rcases List.mem_append.1 hx with hx | hx
        · rcases List.mem_append.1 hx with hx | hx
          · exact hDs x hx
          · rw [List.mem_singleton.1 hx]; exact Nat.le_of_ble_eq_true rfl
        · exact pairs_small _ (fun q hx => hq q (List.mem_of_mem_take hx)) x hx) (by omega)
    rw [show (pre ++ [a]).length = pre.length + 1 by simp, show (done ++ ps.take (needI a).toNat).length = done.length + (needI a).toNat by rw [List.length_append, hlen]] at h2
    rw [show (pre.length : Int) + 1 = ((pre.length + 1 : Nat) : Int) by omega, h2, pathW]
    congr 3
    simp
theorem spec_text (v : List Int) (p : List S55) (k : Nat) (hk : 200 ≤ k) : spec_PathText.f k v p = some (if pathB v p = true then (mk (pathT v p), true) else (mk [], false)) := by
  unfold spec_PathText.f
  rw [spec_path v p k (by omega), Option.bind_some]
  by_cases h : pathB v p = true
  · obtain ⟨h1, h2, h3, h4, h5⟩ := path_facts h
    rw [if_pos h, if_pos h]
    exact spec_text_loop v p h1 h2 v [] p [] k [] rfl rfl h3 h4 h5 (by simp) (by simp) (by simp) (by omega)
  · rw [if_neg h, if_neg h]
    rfl

/-! ### the verb of a word -/
def verbL (l : List UInt8) : Int := if l = [77] then 1 else if l = [76] then 2 else if l = [81] then 3 else if l = [67] then 4 else if l = [90] then 5 else 0
theorem verbL_in (l : List UInt8) : 0 ≤ verbL l ∧ verbL l ≤ 5 := by
  unfold verbL
  repeat (first | omega | split)
theorem verbL_word {l : List UInt8} (h : verbL l ≠ 0) : l = [letterB (verbL l)] ∧ 0 ≤ needI (verbL l) := by
  unfold verbL at h ⊢
  by_cases h1 : l = [77]
  · rw [if_pos h1]; exact ⟨h1, by decide⟩
  · rw [if_neg h1] at h ⊢
    by_cases h2 : l = [76]
    · rw [if_pos h2]; exact ⟨h2, by decide⟩
    · rw [if_neg h2] at h ⊢
      by_cases h3 : l = [81]
      · rw [if_pos h3]; exact ⟨h3, by decide⟩
      · rw [if_neg h3] at h ⊢
        by_cases h4 : l = [67]
        · rw [if_pos h4]; exact ⟨h4, by decide⟩
        · rw [if_neg h4] at h ⊢
          by_cases h5 : l = [90]
          · rw [if_pos h5]; exact ⟨h5, by decide⟩
          · rw [if_neg h5] at h
            exact absurd rfl h
theorem spec_verb (s : ByteArray) (L : List ByteArray) (i : Nat) (hi : i < L.length) (v : List Int) (p : List S55) (k : Nat) :
    spec_ParsePath.l1 (k + 5) s L (i : Int) 0 0 v p = spec_ParsePath.l1 k s L (i : Int) (verbL (L[i]).data.toList) 5 v p := by
  have hr := rdS L i hi
  have e0 : ((⟨#[77, 76, 81, 67, 90]⟩ : ByteArray).extract 0 1).toList = [77] := by decide +kernel
  have e1 : ((⟨#[77, 76, 81, 67, 90]⟩ : ByteArray).extract 1 2).toList = [76] := by decide +kernel
  have e2 : ((⟨#[77, 76, 81, 67, 90]⟩ : ByteArray).extract 2 3).toList = [81] := by decide +kernel
  have e3 : ((⟨#[77, 76, 81, 67, 90]⟩ : ByteArray).extract 3 4).toList = [67] := by decide +kernel
  have e4 : ((⟨#[77, 76, 81, 67, 90]⟩ : ByteArray).extract 4 5).toList = [90] := by decide +kernel
  have c1 : (i : Int) < (L.length : Int) := by omega
  have c0 : (0 : Int) ≤ (i : Int) := by omega
  have w0 : wrap64 ((0 : Int) + 1) = 1 := by decide +kernel
  have w1 : wrap64 ((1 : Int) + 1) = 2 := by decide +kernel
  have w2 : wrap64 ((2 : Int) + 1) = 3 := by decide +kernel
  have w3 : wrap64 ((3 : Int) + 1) = 4 := by decide +kernel
  have w4 : wrap64 ((4 : Int) + 1) = 5 := by decide +kernel
  have t0 : ((0 : Int)).toNat = 0 := rfl
  have t1 : ((1 : Int)).toNat = 1 := rfl
  have t2 : ((2 : Int)).toNat = 2 := rfl
  have t3 : ((3 : Int)).toNat = 3 := rfl
  have t4 : ((4 : Int)).toNat = 4 := rfl
  have t5 : ((5 : Int)).toNat = 5 := rfl
  have hw : (L[i]).toList = (L[i]).data.toList := Lib.toList_data _
  generalize (L[i]).data.toList = l at hw
  have step (m : Nat) (x y : Int) (b : UInt8) (n n' : Nat) (hx : wrap64 (x + 1) = y) (hx0 : 0 ≤ x) (hxy : x ≤ y) (hx5 : x < 5) (hy5 : y ≤ 5) (a : Int) (hn : x.toNat = n) (hn' : y.toNat = n') (he : ((⟨#[77, 76, 81, 67, 90]⟩ : ByteArray).extract n n').toList = [b]) :
      spec_ParsePath.l1 (m + 1) s L (i : Int) a x v p = spec_ParsePath.l1 m s L (i : Int) (if l = [b] then y else a) y v p := by
    rw [spec_ParsePath.l1, if_pos hx5, if_pos c0, if_pos c1, if_pos hx0, hx, if_pos hxy, if_pos hy5, hr, hw, hn, hn', he]
    by_cases h : l = [b]
    · rw [if_pos h, if_pos h]
    · rw [if_neg h, if_neg h]
  rw [step (k + 4) 0 1 77 0 1 w0 (by decide) (by decide) (by decide) (by decide) 0 t0 t1 e0, step (k + 3) 1 2 76 1 2 w1 (by decide) (by decide) (by decide) (by decide) _ t1 t2 e1, step (k + 2) 2 3 81 2 3 w2 (by decide) (by decide) (by decide) (by decide) _ t2 t3 e2,
    step (k + 1) 3 4 67 3 4 w3 (by decide) (by decide) (by decide) (by decide) _ t3 t4 e3, step k 4 5 90 4 5 w4 (by decide) (by decide) (by decide) (by decide) _ t4 t5 e4]
  congr 1
  unfold verbL
  by_cases h1 : l = [77]
  · subst h1; rfl
  · by_cases h2 : l = [76]
    · subst h2; rfl
    · by_cases h3 : l = [81]
      · subst h3; rfl
      · by_cases h4 : l = [67]
        · subst h4; rfl
        · by_cases h5 : l = [90]
          · subst h5; rfl
          · simp only [h1, h2, h3, h4, h5, if_false]
theorem impl_verb (w : ByteArray) (h : w.size = 1) : wrap64 (Go.Lib.index (⟨#[77, 76, 81, 67, 90]⟩ : ByteArray).data.toList w.data.toList + 1) = verbL w.data.toList := by
  obtain ⟨b, hb⟩ : ∃ b, w.data.toList = [b] := by
    have hs := Lib.size_eq w
    match hl : w.data.toList with
    | [] => rw [hl, List.length_nil] at hs; omega
    | [b] => exact ⟨b, rfl⟩
    | _ :: _ :: _ => rw [hl] at hs; simp only [List.length_cons] at hs; omega
  rw [hb, Lib.index_one]
  have e : (⟨#[77, 76, 81, 67, 90]⟩ : ByteArray).data.toList = [77, 76, 81, 67, 90] := rfl
  rw [e]
  have v0 : wrap64 ((-1 : Int) + 1) = 0 := by decide +kernel
  by_cases h1 : b = 77
  · subst h1; decide +kernel
  · by_cases h2 : b = 76
    · subst h2; decide +kernel
    · by_cases h3 : b = 81
      · subst h3; decide +kernel
      · by_cases h4 : b = 67
        · subst h4; decide +kernel
        · by_cases h5 : b = 90
          · subst h5; decide +kernel
          · have f : ∀ c : UInt8, b ≠ c → (c == b) = false := fun c hc => beq_eq_false_iff_ne.2 (fun e => hc e.symm)
            have hx : Lib.indexByte [77, 76, 81, 67, 90] b = -1 := by simp [Lib.indexByte, f 77 h1, f 76 h2, f 81 h3, f 67 h4, f 90 h5]
            rw [hx, v0]
            simp [verbL, h1, h2, h3, h4, h5]
theorem verb_long (w : ByteArray) (h : w.size ≠ 1) : verbL w.data.toList = 0 := by
  have hs := Lib.size_eq w
  have f : ∀ c : UInt8, w.data.toList ≠ [c] := fun c e => by rw [e, List.length_singleton] at hs; exact h hs
  unfold verbL
  rw [if_neg (f _), if_neg (f _), if_neg (f _), if_neg (f _), if_neg (f _)]

/-! ### the words read -/
theorem lens_append (A B : List (List UInt8)) : Lib.lens (A ++ B) = Lib.lens A + Lib.lens B := by simp [Lib.lens]
theorem lens_cons (x : List UInt8) (B : List (List UInt8)) : Lib.lens (x :: B) = x.length + Lib.lens B := by simp [Lib.lens]
theorem lens_nil : Lib.lens [] = 0 := rfl
def wd (L : List ByteArray) : List (List UInt8) := L.map fun x => x.data.toList
theorem wd_cons (w : ByteArray) (L : List ByteArray) : wd (w :: L) = w.data.toList :: wd L := rfl
theorem wd_nil : wd [] = [] := rfl
theorem wd_append (A B : List ByteArray) : wd (A ++ B) = wd A ++ wd B := List.map_append
theorem path_snoc (a : Int) (qs : List S55) (hq : qs.length ≤ (needI a).toNat) : ∀ (v : List Int) (p : List S55), needs v = p.length → pathW (v ++ [a]) (p ++ qs) = pathW v p ++ ([letterB a] :: qs.flatMap pairW)
  | [], p, h => by
    obtain rfl : p = [] := List.eq_nil_of_length_eq_zero (by rw [← h]; rfl)
    show [letterB a] :: ((([] ++ qs).take (needI a).toNat).flatMap pairW ++ pathW [] _) = _
    rw [List.nil_append, List.take_of_length_le hq]
    simp [pathW]
  | b :: v, p, h => by
    rw [needs_cons] at h
    show [letterB b] :: (((p ++ qs).take (needI b).toNat).flatMap pairW ++ pathW (v ++ [a]) ((p ++ qs).drop (needI b).toNat)) = _
    rw [List.take_append_of_le_length (by omega), List.drop_append_of_le_length (by omega), path_snoc a qs hq v (p.drop (needI b).toNat) (by rw [List.length_drop]; omega), pathW]
    simp
theorem needs_snoc (v : List Int) (a : Int) : needs (v ++ [a]) = needs v + (needI a).toNat := by simp [needs]
def outI : Option (List Int × List S55) → List Int × List S55 × Bool
  | none => ([], [], false)
  | some (v, p) => (v, p, true)
/-- What the reading makes of a state, words yet to be read. -/
def Reads (r : Option (List Int × List S55)) (m : Nat) (W : List (List UInt8)) (L : List ByteArray) : Prop :=
  ∀ v' p', r = some (v', p') → needs v' = p'.length ∧ m ≤ v'.length ∧ (pathW v' p').length = W.length + L.length ∧ Lib.lens (pathW v' p') ≤ Lib.lens W + Lib.lens (wd L)
theorem impl_read_points_of (N K : Nat) (IH : ∀ (L : List ByteArray) (v : List Int) (p : List S55) (k : Nat), L.length < N → needs v = p.length → L.length + v.length ≤ 3000000 → L.length + p.length ≤ 3000000 → (∀ w ∈ L, w.size + 30 ≤ K) → 6 * L.length + K + 10 ≤ k →
      ∃ r, impl_readPath.l0 k L v p = some (outI r) ∧ Reads r v.length (pathW v p) L)
    (v : List Int) (a : Int) (p : List S55) (hvp : needs v = p.length) (ha : 0 ≤ needI a) : ∀ (r : Nat) (L : List ByteArray) (qs : List S55) (k : Nat), L.length < N → 2 * r ≤ L.length → (needI a).toNat = r + qs.length → L.length + v.length + 1 ≤ 3000000 → L.length + (p.length + qs.length) ≤ 3000000 → (∀ w ∈ L, w.size + 30 ≤ K) → 6 * L.length + K + 11 + r ≤ k →
      ∃ res, impl_readPath.l1 k L (needI a) (qs.length : Int) (v ++ [a]) (p ++ qs) = some (outI res) ∧ Reads res (v.length + 1) (pathW (v ++ [a]) (p ++ qs)) L := by
  have hn := needI_in a
  intro r
  induction r with
  | zero =>
    intro L qs k hL h2 hr hb1 hb2 hw hk
    obtain ⟨k, rfl⟩ : ∃ m, k = m + 1 := ⟨k - 1, by omega⟩
    rw [impl_readPath.l1, if_neg (by omega)]
    obtain ⟨r, e, h⟩ := IH L (v ++ [a]) (p ++ qs) k hL (by rw [needs_snoc, List.length_append]; omega) (by rw [List.length_append, List.length_singleton]; omega) (by rw [List.length_append]; omega) hw (by omega)
    rw [List.length_append, List.length_singleton] at h
    exact ⟨r, e, h⟩
  | succ r ih =>
    intro L qs k hL h2 hr hb1 hb2 hw hk
    obtain ⟨k, rfl⟩ : ∃ m, k = m + 1 := ⟨k - 1, by omega⟩
    match L, hL, h2, hb1, hb2, hw, hk with
    | w1 :: w2 :: L, hL, h2, hb1, hb2, hw, hk =>
      simp only [List.length_cons] at hL h2 hb1 hb2 hk
      have k1 := hw w1 (by simp)
      have k2 := hw w2 (by simp)
      have r0 : rdOf ByteArray.empty (w1 :: w2 :: L) 0 = w1 := rfl
      have r1 : rdOf ByteArray.empty (w1 :: w2 :: L) 1 = w2 := rfl
      rw [impl_readPath.l1, if_pos (by omega), if_pos (by simp only [List.length_cons]; omega), r0, impl_signed w1 k (by omega), Option.bind_some, if_pos (by simp only [List.length_cons]; omega), r1, impl_signed w2 k (by omega), Option.bind_some]
      by_cases b1 : (SI w1).2 = true
      · by_cases b2 : (SI w2).2 = true
        · rw [if_pos b1, if_pos b2, if_pos (by rw [List.length_append]; omega), if_pos (by simp only [List.length_cons]; omega), w64 (n := (qs.length : Int) + 1) (by omega) (by omega)]
          obtain ⟨res, e, h⟩ := ih L (qs ++ [⟨(SI w1).1, (SI w2).1⟩]) k (by omega) (by omega) (by rw [List.length_append, List.length_singleton]; omega) (by omega) (by rw [List.length_append, List.length_singleton]; omega) (fun w h => hw w (by simp [h])) (by omega)
          rw [List.length_append, List.length_singleton, ← List.append_assoc] at e
          rw [← List.append_assoc] at h
          refine ⟨res, by rw [show (qs.length : Int) + 1 = ((qs.length + 1 : Nat) : Int) by omega]; exact e, fun v' p' hr' => ?_⟩
          obtain ⟨g1, g2, g3, g4⟩ := h v' p' hr'
          rw [List.append_assoc, path_snoc a _ (by rw [List.length_append, List.length_singleton]; omega) v p hvp] at g3 g4
          rw [path_snoc a qs (by omega) v p hvp]
          have l1 := ((signs w1).2 b1).1
          have l2 := ((signs w2).2 b2).1
          have s1 := Lib.size_eq w1
          have s2 := Lib.size_eq w2
          simp only [List.flatMap_append, List.flatMap_cons, List.flatMap_nil, List.append_nil, pairW, List.length_append, List.length_cons, List.length_nil, lens_append, lens_cons, lens_nil] at g3 g4
          refine ⟨g1, g2, ?_, ?_⟩
          · simp only [List.length_append, List.length_cons] at g3 ⊢
            omega
          · simp only [lens_append, lens_cons, wd_cons, List.length_cons, List.length_nil] at g4 ⊢
            omega
        · rw [if_pos b1, if_neg b2]
          exact ⟨none, rfl, fun _ _ h => by cases h⟩
      · rw [if_neg b1]
        exact ⟨none, rfl, fun _ _ h => by cases h⟩
theorem impl_read (K : Nat) (N : Nat) : ∀ (L : List ByteArray) (v : List Int) (p : List S55) (k : Nat), L.length < N → needs v = p.length → L.length + v.length ≤ 3000000 → L.length + p.length ≤ 3000000 → (∀ w ∈ L, w.size + 30 ≤ K) → 6 * L.length + K + 10 ≤ k →
    ∃ r, impl_readPath.l0 k L v p = some (outI r) ∧ Reads r v.length (pathW v p) L := by
  induction N with
  | zero => intro L v p k h; omega
  | succ N IH =>
    intro L v p k hL hvp hb1 hb2 hw hk
    obtain ⟨k, rfl⟩ : ∃ m, k = m + 2 := ⟨k - 2, by omega⟩
    cases L with
    | nil =>
      rw [impl_readPath.l0, if_neg (by simp)]
      refine ⟨some (v, p), rfl, fun v' p' h => ?_⟩
      injection h with h
      injection h with h1 h2
      subst h1; subst h2
      exact ⟨hvp, Nat.le_refl _, by simp, by simp [wd, lens_nil]⟩
    | cons w L =>
      simp only [List.length_cons] at hL hb1 hb2 hk
      have k1 := hw w (by simp)
      have r0 : rdOf ByteArray.empty (w :: L) 0 = w := rfl
      have hidx : strings_Index.f (⟨#[77, 76, 81, 67, 90]⟩ : ByteArray) w = some (Go.Lib.index (⟨#[77, 76, 81, 67, 90]⟩ : ByteArray).data.toList w.data.toList) := by
        unfold strings_Index.f
        rw [if_pos (by decide)]
      rw [impl_readPath.l0, if_pos (by simp only [List.length_cons]; omega), if_pos (by simp only [List.length_cons]; omega), r0, hidx, Option.bind_some]
      by_cases hs : (w.size : Int) = 1
      · rw [if_pos hs, impl_verb w (by omega)]
        by_cases hv0 : verbL w.data.toList = 0
        · rw [if_pos hv0, impl_readPath.j1, if_pos rfl]
          exact ⟨none, rfl, fun _ _ h => by cases h⟩
        · obtain ⟨hwd, ha⟩ := verbL_word hv0
          have hni := needI_in (verbL w.data.toList)
          have hvi := verbL_in w.data.toList
          rw [if_neg hv0, impl_need, Option.bind_some, w64 (n := 2 * needI (verbL w.data.toList)) (by omega) (by omega), w64 (n := 1 + 2 * needI (verbL w.data.toList)) (by omega) (by omega)]
          by_cases hlen : (((w :: L).length : Nat) : Int) < 1 + 2 * needI (verbL w.data.toList)
          · rw [decide_eq_true hlen, impl_readPath.j1, if_pos rfl]
            exact ⟨none, rfl, fun _ _ h => by cases h⟩
          · rw [decide_eq_false hlen, impl_readPath.j1, if_neg (by decide), if_pos (by simp only [List.length_cons]; omega), if_pos (by omega)]
            obtain ⟨k, rfl⟩ : ∃ m, k = m + 1 := ⟨k - 1, by omega⟩
            simp only [List.length_cons] at hlen
            rw [impl_need, Option.bind_some]
            obtain ⟨res, e, h⟩ := impl_read_points_of N K IH v (verbL w.data.toList) p hvp ha (needI (verbL w.data.toList)).toNat L [] (k + 1) (by omega) (by omega) (by simp) (by omega) (by rw [List.length_nil]; omega) (fun x hx => hw x (by simp [hx])) (by omega)
            rw [List.append_nil] at e h
            refine ⟨res, e, fun v' p' hr' => ?_⟩
            obtain ⟨g1, g2, g3, g4⟩ := h v' p' hr'
            have hps := path_snoc (verbL w.data.toList) [] (by simp) v p hvp
            rw [List.append_nil] at hps
            rw [hps] at g3 g4
            have s1 := Lib.size_eq w
            simp only [List.flatMap_nil, List.length_append, List.length_cons, List.length_nil, lens_append, lens_cons, lens_nil] at g3 g4
            refine ⟨g1, by omega, ?_, ?_⟩
            · rw [List.length_cons]; omega
            · rw [wd_cons, lens_cons]; omega
      · rw [if_neg hs, impl_readPath.j1, if_pos rfl]
        exact ⟨none, rfl, fun _ _ h => by cases h⟩
/-- A fact that omega does not look at. -/
structure Hid (p : Prop) : Prop where
  out : p
def fin (s : ByteArray) (v : List Int) (p : List S55) : List Int × List S55 × Bool := if pathB v p = true then (if pathT v p = s.data.toList then (v, p, true) else ([], [], false)) else ([], [], false)
/-- The program's reading r, the reference's answer. -/
def Both (s : ByteArray) (Lf : List ByteArray) (r : Option (List Int × List S55)) (ans : Option (List Int × List S55 × Bool)) : Prop :=
  (∃ v' p', r = some (v', p') ∧ ans = some (fin s v' p')) ∨
  (ans = some ([], [], false) ∧ ∀ v' p', r = some (v', p') → 24 < v'.length ∨ ((pathW v' p').length = Lf.length ∧ Lib.lens (pathW v' p') < Lib.lens (wd Lf)))
theorem rd_at (pre L : List ByteArray) (w : ByteArray) : rdOf ByteArray.empty (pre ++ w :: L) (pre.length : Int) = w := by
  rw [rdS _ _ (by simp)]
  simp
theorem both_read_points (s : ByteArray) (Lf : List ByteArray) (N K : Nat) (hN : Lf.length ≤ 1500000)
    (IH : ∀ (L pre : List ByteArray) (v : List Int) (p : List S55) (ki ks : Nat), Lf = pre ++ L → L.length < N → needs v = p.length → (pathW v p).length = pre.length → Lib.lens (pathW v p) ≤ Lib.lens (wd pre) → v.length ≤ pre.length → p.length ≤ pre.length → (∀ w ∈ L, w.size + 30 ≤ K) → 6 * L.length + K + 10 ≤ ki → 20 * L.length + K + 300 ≤ ks →
      ∃ r, impl_readPath.l0 ki L v p = some (outI r) ∧ Both s Lf r (spec_ParsePath.l0 ks s Lf (pre.length : Int) v p))
    (v : List Int) (a : Int) (p : List S55) (hvp : needs v = p.length) (ha : 0 ≤ needI a) (i0 : Nat) : ∀ (r : Nat) (L pre : List ByteArray) (qs : List S55) (ki ks : Nat), Lf = pre ++ L → pre.length = i0 + 1 + 2 * qs.length → L.length < N → 2 * r ≤ L.length → (needI a).toNat = r + qs.length →
      (pathW (v ++ [a]) (p ++ qs)).length = pre.length → Lib.lens (pathW (v ++ [a]) (p ++ qs)) ≤ Lib.lens (wd pre) → v.length + 1 ≤ pre.length → p.length + qs.length ≤ pre.length → (∀ w ∈ L, w.size + 30 ≤ K) → 6 * L.length + K + 11 + r ≤ ki → 20 * L.length + K + 301 + r ≤ ks →
      ∃ res, impl_readPath.l1 ki L (needI a) (qs.length : Int) (v ++ [a]) (p ++ qs) = some (outI res) ∧ Both s Lf res (spec_ParsePath.l2 ks s Lf (i0 : Int) (needI a) (qs.length : Int) (v ++ [a]) (p ++ qs)) := by
  have hn := needI_in a
  intro r
  induction r with
  | zero =>
    intro L pre qs ki ks hLf hpre hL h2 hr hW hlens hvl hpl hw hki hks
    obtain ⟨ki, rfl⟩ : ∃ m, ki = m + 1 := ⟨ki - 1, by omega⟩
    obtain ⟨ks, rfl⟩ : ∃ m, ks = m + 1 := ⟨ks - 1, by omega⟩
    have hLl : Lf.length = pre.length + L.length := by rw [hLf, List.length_append]
    rw [impl_readPath.l1, if_neg (by omega), spec_ParsePath.l2, if_neg (by omega), w64 (n := (i0 : Int) + 1) (by omega) (by omega), w64 (n := 2 * needI a) (by omega) (by omega), w64 (n := (i0 : Int) + 1 + 2 * needI a) (by omega) (by omega),
      show (i0 : Int) + 1 + 2 * needI a = (pre.length : Int) by omega]
    exact IH L pre (v ++ [a]) (p ++ qs) ki ks hLf hL (by rw [needs_snoc, List.length_append]; omega) hW hlens (by rw [List.length_append, List.length_singleton]; omega) (by rw [List.length_append]; omega) hw (by omega) (by omega)
  | succ r ih =>
    intro L pre qs ki ks hLf hpre hL h2 hr hW hlens hvl hpl hw hki hks
    obtain ⟨ki, rfl⟩ : ∃ m, ki = m + 1 := ⟨ki - 1, by omega⟩
    obtain ⟨ks, rfl⟩ : ∃ m, ks = m + 1 := ⟨ks - 1, by omega⟩
    match L, hLf, hL, h2, hw, hki, hks with
    | w1 :: w2 :: L, hLf, hL, h2, hw, hki, hks =>
      simp only [List.length_cons] at hL h2 hki hks
      have hLl : Lf.length = pre.length + (L.length + 2) := by rw [hLf, List.length_append]; simp
      have k1 := hw w1 (by simp)
      have k2 := hw w2 (by simp)
      have r0 : rdOf ByteArray.empty (w1 :: w2 :: L) 0 = w1 := rfl
      have r1 : rdOf ByteArray.empty (w1 :: w2 :: L) 1 = w2 := rfl
      have q0 : rdOf ByteArray.empty Lf (pre.length : Int) = w1 := by rw [hLf]; exact rd_at pre _ w1
      have q1 : rdOf ByteArray.empty Lf ((pre.length : Int) + 1) = w2 := by
        have h := rd_at (pre ++ [w1]) L w2
        rw [List.append_assoc, List.length_append, List.length_singleton] at h
        rw [hLf, show (pre.length : Int) + 1 = ((pre.length + 1 : Nat) : Int) by omega]
        exact h
      have s1 := Lib.size_eq w1
      have s2 := Lib.size_eq w2
      obtain ⟨ia1, ib1⟩ := signs w1
      obtain ⟨ia2, ib2⟩ := signs w2
      have hi1 : Hid (wrap64 (wrap64 ((i0 : Int) + 1) + wrap64 (2 * (qs.length : Int))) = (pre.length : Int)) := ⟨by
        rw [w64 (n := (i0 : Int) + 1) (by omega) (by omega), w64 (n := 2 * (qs.length : Int)) (by omega) (by omega), w64 (by omega) (by omega)]; omega⟩
      have hi2 : Hid (wrap64 (wrap64 ((i0 : Int) + 2) + wrap64 (2 * (qs.length : Int))) = (pre.length : Int) + 1) := ⟨by
        rw [w64 (n := (i0 : Int) + 2) (by omega) (by omega), w64 (n := 2 * (qs.length : Int)) (by omega) (by omega), w64 (by omega) (by omega)]; omega⟩
      have hspec : spec_ParsePath.l2 (ks + 1) s Lf (i0 : Int) (needI a) (qs.length : Int) (v ++ [a]) (p ++ qs) = if (SS w1).2 = true then (if (SS w2).2 = true then spec_ParsePath.l2 ks s Lf (i0 : Int) (needI a) ((qs.length + 1 : Nat) : Int) (v ++ [a]) (p ++ (qs ++ [⟨(SS w1).1, (SS w2).1⟩])) else some ([], [], false)) else some ([], [], false) := by
        rw [spec_ParsePath.l2, if_pos (by omega), hi1.out, if_pos (by omega), if_pos (by omega), q0, spec_signed w1 ks (by omega), Option.bind_some, hi2.out, if_pos (by omega), if_pos (by omega), q1, spec_signed w2 ks (by omega), Option.bind_some,
          if_pos (show (p ++ qs).length < 8796093022208 by rw [List.length_append]; omega), w64 (n := (qs.length : Int) + 1) (by omega) (by omega), List.append_assoc]
        rfl
      rw [hspec, impl_readPath.l1, if_pos (by omega), if_pos (by simp only [List.length_cons]; omega), r0, impl_signed w1 ki (by omega), Option.bind_some, if_pos (by simp only [List.length_cons]; omega), r1, impl_signed w2 ki (by omega), Option.bind_some]
      by_cases b1 : (SI w1).2 = true
      · by_cases b2 : (SI w2).2 = true
        · rw [if_pos b1, if_pos b2, if_pos (by rw [List.length_append]; omega), if_pos (by simp only [List.length_cons]; omega), w64 (n := (qs.length : Int) + 1) (by omega) (by omega), List.append_assoc]
          have l1 := (ib1 b1).1
          have l2 := (ib2 b2).1
          have hstep : (pathW (v ++ [a]) (p ++ (qs ++ [⟨(SI w1).1, (SI w2).1⟩]))) = pathW (v ++ [a]) (p ++ qs) ++ [Lib.itoa (SI w1).1, Lib.itoa (SI w2).1] := by
            rw [path_snoc a _ (by rw [List.length_append, List.length_singleton]; omega) v p hvp, path_snoc a qs (by omega) v p hvp]
            simp [pairW]
          have hgo : (Lib.itoa (SI w1).1).length + (Lib.itoa (SI w2).1).length < w1.data.toList.length + w2.data.toList.length → ∃ res, impl_readPath.l1 ki L (needI a) ((qs.length : Int) + 1) (v ++ [a]) (p ++ (qs ++ [⟨(SI w1).1, (SI w2).1⟩])) = some (outI res) ∧ Both s Lf res (some ([], [], false)) := by
            intro hlt
            obtain ⟨res, e, h⟩ := impl_read_points_of (L.length + 1) K (impl_read K (L.length + 1)) v a p hvp ha r L (qs ++ [⟨(SI w1).1, (SI w2).1⟩]) ki (by omega) (by omega) (by rw [List.length_append, List.length_singleton]; omega) (by omega) (by rw [List.length_append, List.length_singleton]; omega) (fun w h => hw w (by simp [h])) (by omega)
            rw [List.length_append, List.length_singleton] at e
            refine ⟨res, by rw [show (qs.length : Int) + 1 = ((qs.length + 1 : Nat) : Int) by omega]; exact e, .inr ⟨rfl, fun v' p' hr' => .inr ?_⟩⟩
            obtain ⟨_, _, g3, g4⟩ := h v' p' hr'
            rw [hstep] at g3 g4
            have hwd : Lib.lens (wd Lf) = Lib.lens (wd pre) + (w1.data.toList.length + (w2.data.toList.length + Lib.lens (wd L))) := by
              rw [hLf, wd_append, lens_append, wd_cons, lens_cons, wd_cons, lens_cons]
            simp only [lens_append, lens_cons, lens_nil, List.length_append, List.length_cons, List.length_nil] at g3 g4
            exact ⟨by omega, by omega⟩
          by_cases c1 : (SS w1).2 = true
          · by_cases c2 : (SS w2).2 = true
            · rw [if_pos c1, if_pos c2, ← ia1 c1, ← ia2 c2]
              have hx := ih L (pre ++ [w1, w2]) (qs ++ [⟨(SI w1).1, (SI w2).1⟩]) ki ks (by rw [hLf]; simp) (by simp only [List.length_append, List.length_cons, List.length_nil]; omega) (by omega) (by omega) (by rw [List.length_append, List.length_singleton]; omega)
                (by rw [hstep]; simp only [List.length_append, List.length_cons, List.length_nil]; omega)
                (by rw [hstep, wd_append, lens_append, lens_append]; simp only [wd_cons, wd_nil, lens_cons, lens_nil]; omega)
                (by simp only [List.length_append, List.length_cons, List.length_nil]; omega) (by simp only [List.length_append, List.length_cons, List.length_nil]; omega) (fun w h => hw w (by simp [h])) (by omega) (by omega)
              rw [List.length_append, List.length_singleton] at hx
              exact hx
            · rw [if_pos c1, if_neg c2]
              have := (ib2 b2).2.1 (by simpa using c2)
              exact hgo (by omega)
          · rw [if_neg c1]
            have := (ib1 b1).2.1 (by simpa using c1)
            exact hgo (by omega)
        · have c2 : ¬ (SS w2).2 = true := fun h => b2 (by rw [ia2 h]; exact h)
          rw [if_pos b1, if_neg b2, if_neg c2]
          refine ⟨none, rfl, .inr ⟨by split <;> rfl, fun _ _ h => by cases h⟩⟩
      · have c1 : ¬ (SS w1).2 = true := fun h => b1 (by rw [ia1 h]; exact h)
        rw [if_neg b1, if_neg c1]
        exact ⟨none, rfl, .inr ⟨rfl, fun _ _ h => by cases h⟩⟩
theorem fin_long (s : ByteArray) (v : List Int) (p : List S55) (h : 24 < v.length) : fin s v p = ([], [], false) := by
  unfold fin
  rw [if_neg (fun hb => by have := (path_facts hb).1; omega)]
theorem spec_end (s : ByteArray) (Lf : List ByteArray) (i : Int) (v : List Int) (p : List S55) (k : Nat) (hk : 200 ≤ k) : spec_ParsePath.j1 (k + 1) s Lf i false v p = some (fin s v p) := by
  rw [spec_ParsePath.j1, if_neg (by decide), spec_text v p k hk, Option.bind_some]
  unfold fin
  by_cases h : pathB v p = true
  · rw [if_pos h, if_pos h, if_pos rfl]
    show (if (mk (pathT v p)).toList = s.toList then some (v, p, true) else some ([], [], false)) = _
    rw [mk_toList, Lib.toList_data]
    split <;> rfl
  · rw [if_neg h, if_neg h]
    rfl
theorem both_read (s : ByteArray) (Lf : List ByteArray) (K : Nat) (hLf0 : Lf.length ≤ 1500000) (N : Nat) : ∀ (L pre : List ByteArray) (v : List Int) (p : List S55) (ki ks : Nat), Lf = pre ++ L → L.length < N → needs v = p.length → (pathW v p).length = pre.length → Lib.lens (pathW v p) ≤ Lib.lens (wd pre) → v.length ≤ pre.length → p.length ≤ pre.length → (∀ w ∈ L, w.size + 30 ≤ K) → 6 * L.length + K + 10 ≤ ki → 20 * L.length + K + 300 ≤ ks →
    ∃ r, impl_readPath.l0 ki L v p = some (outI r) ∧ Both s Lf r (spec_ParsePath.l0 ks s Lf (pre.length : Int) v p) := by
  induction N with
  | zero => intro L pre v p ki ks _ h; omega
  | succ N IH =>
    intro L pre v p ki ks hLf hL hvp hW hlens hvl hpl hw hki hks
    have hLl : Lf.length = pre.length + L.length := by rw [hLf, List.length_append]
    cases L with
    | nil =>
      obtain ⟨ki, rfl⟩ : ∃ m, ki = m + 1 := ⟨ki - 1, by omega⟩
      obtain ⟨ks, rfl⟩ : ∃ m, ks = m + 2 := ⟨ks - 2, by omega⟩
      rw [List.length_nil] at hLl hks
      rw [impl_readPath.l0, if_neg (by simp), spec_ParsePath.l0, if_neg (by omega), spec_end s Lf _ v p ks (by omega)]
      exact ⟨some (v, p), rfl, .inl ⟨v, p, rfl, rfl⟩⟩
    | cons w L =>
      by_cases hlong : 24 < v.length
      · obtain ⟨r, e, h⟩ := impl_read K (N + 1) (w :: L) v p ki hL hvp (by omega) (by omega) hw hki
        obtain ⟨ks, rfl⟩ : ∃ m, ks = m + 2 := ⟨ks - 2, by omega⟩
        simp only [List.length_cons] at hLl hks
        rw [spec_ParsePath.l0, if_pos (by omega), decide_eq_false (by omega), spec_end s Lf _ v p ks (by omega), fin_long s v p hlong]
        exact ⟨r, e, .inr ⟨rfl, fun v' p' hr => .inl (by have := (h v' p' hr).2.1; omega)⟩⟩
      · simp only [List.length_cons] at hL hLl hki hks
        obtain ⟨ki, rfl⟩ : ∃ m, ki = m + 2 := ⟨ki - 2, by omega⟩
        obtain ⟨ks, rfl⟩ : ∃ m, ks = (m + 2) + 5 + 1 + 1 := ⟨ks - 9, by omega⟩
        have k1 := hw w (by simp)
        have r0 : rdOf ByteArray.empty (w :: L) 0 = w := rfl
        have hidx : strings_Index.f (⟨#[77, 76, 81, 67, 90]⟩ : ByteArray) w = some (Go.Lib.index (⟨#[77, 76, 81, 67, 90]⟩ : ByteArray).data.toList w.data.toList) := by
          unfold strings_Index.f
          rw [if_pos (by decide)]
        have hLw : Lf[pre.length]'(by omega) = w := by simp [hLf]
        have hspec : spec_ParsePath.l0 ((ks + 2) + 5 + 1 + 1) s Lf (pre.length : Int) v p = if needI (verbL w.data.toList) < 0 then some ([], [], false) else spec_ParsePath.j3 (ks + 1) s Lf (pre.length : Int) (verbL w.data.toList) (needI (verbL w.data.toList)) (decide (wrap64 ((pre.length : Int) + wrap64 (2 * needI (verbL w.data.toList))) ≥ (Lf.length : Int))) v p := by
          rw [spec_ParsePath.l0, if_pos (by omega), decide_eq_true (by omega), spec_ParsePath.j1, if_pos rfl, spec_verb s Lf pre.length (by omega) v p (ks + 2), hLw, spec_ParsePath.l1, if_neg (by decide), spec_need, Option.bind_some]
          by_cases h : needI (verbL w.data.toList) < 0
          · rw [if_pos h, if_pos h, spec_ParsePath.j3, if_pos rfl]
          · rw [if_neg h, if_neg h]
        rw [hspec, impl_readPath.l0, if_pos (by simp only [List.length_cons]; omega), if_pos (by simp only [List.length_cons]; omega), r0, hidx, Option.bind_some]
        by_cases hv0 : verbL w.data.toList = 0
        · have hnn : needI (verbL w.data.toList) < 0 := by rw [hv0]; decide
          rw [if_pos hnn]
          by_cases hs : (w.size : Int) = 1
          · rw [if_pos hs, impl_verb w (by omega), if_pos hv0, impl_readPath.j1, if_pos rfl]
            exact ⟨none, rfl, .inr ⟨rfl, fun _ _ h => by cases h⟩⟩
          · rw [if_neg hs, impl_readPath.j1, if_pos rfl]
            exact ⟨none, rfl, .inr ⟨rfl, fun _ _ h => by cases h⟩⟩
        · obtain ⟨hwd, ha⟩ := verbL_word hv0
          have hni := needI_in (verbL w.data.toList)
          have hvi := verbL_in w.data.toList
          have hsz : w.size = 1 := by
            have := Lib.size_eq w
            rw [this, hwd, List.length_singleton]
          rw [if_neg (show ¬ needI (verbL w.data.toList) < 0 by omega), if_pos (show (w.size : Int) = 1 by omega), impl_verb w hsz, if_neg hv0, impl_need, Option.bind_some, w64 (n := 2 * needI (verbL w.data.toList)) (by omega) (by omega), w64 (n := 1 + 2 * needI (verbL w.data.toList)) (by omega) (by omega), w64 (n := (pre.length : Int) + 2 * needI (verbL w.data.toList)) (by omega) (by omega)]
          by_cases hlen : (((w :: L).length : Nat) : Int) < 1 + 2 * needI (verbL w.data.toList)
          · have hlen2 : (pre.length : Int) + 2 * needI (verbL w.data.toList) ≥ (Lf.length : Int) := by simp only [List.length_cons] at hlen; omega
            rw [decide_eq_true hlen, impl_readPath.j1, if_pos rfl, decide_eq_true hlen2, spec_ParsePath.j3, if_pos rfl]
            exact ⟨none, rfl, .inr ⟨rfl, fun _ _ h => by cases h⟩⟩
          · have hlen2 : ¬ (pre.length : Int) + 2 * needI (verbL w.data.toList) ≥ (Lf.length : Int) := by simp only [List.length_cons] at hlen; omega
            rw [decide_eq_false hlen, impl_readPath.j1, if_neg (by decide), if_pos (by simp only [List.length_cons]; omega), if_pos (by omega), decide_eq_false hlen2, spec_ParsePath.j3, if_neg (by decide), if_pos (by omega)]
            obtain ⟨ki, rfl⟩ : ∃ m, ki = m + 1 := ⟨ki - 1, by omega⟩
            simp only [List.length_cons] at hlen
            rw [impl_need, Option.bind_some]
            have hps := path_snoc (verbL w.data.toList) [] (by simp) v p hvp
            rw [List.append_nil] at hps
            have s1 := Lib.size_eq w
            have hx := both_read_points s Lf N K hLf0 IH v (verbL w.data.toList) p hvp ha pre.length (needI (verbL w.data.toList)).toNat L (pre ++ [w]) [] (ki + 1) ks (by rw [hLf]; simp) (by simp) (by omega) (by omega) (by simp)
              (by rw [List.append_nil, hps]; simp only [List.flatMap_nil, List.length_append, List.length_cons, List.length_nil]; omega)
              (by rw [List.append_nil, hps, wd_append, lens_append, lens_append]; simp only [List.flatMap_nil, wd_cons, wd_nil, lens_cons, lens_nil, List.length_singleton]; omega)
              (by rw [List.length_append, List.length_singleton]; omega) (by rw [List.length_append, List.length_singleton, List.length_nil]; omega) (fun x hx => hw x (by simp [hx])) (by omega) (by omega)
            rw [List.append_nil] at hx
            exact hx

/-! ### the words of the text -/
theorem words_loop (s : ByteArray) (hs : s.size ≤ 1048576) (d : Nat) : ∀ (k i b : Nat) (out : List ByteArray), s.size - i = d → i ≤ s.size → b ≤ i → out.length ≤ i → (∀ c ∈ (s.data.toList.drop b).take (i - b), c ≠ 32) → d + 2 ≤ k →
    spec_l06Words.l0 k s out (b : Int) (i : Int) = some (out ++ (parts (s.data.toList.drop b)).map mk) := by
  have hsz := Lib.size_eq s
  induction d with
  | zero =>
    intro k i b out hd hi hb hout hw hk
    obtain ⟨k, rfl⟩ : ∃ m, k = m + 2 := ⟨k - 2, by omega⟩
    have e : i = s.size := by omega
    subst e
    have hx : (s.data.toList.drop b).take (s.size - b) = s.data.toList.drop b := by rw [List.take_of_length_le (by rw [List.length_drop]; omega)]
    rw [parts_word _ (by rw [← hx]; exact hw)]
    rw [spec_l06Words.l0, if_pos (by omega), if_pos rfl, if_pos (by omega), if_pos (by omega), if_pos (by omega), Int.toNat_natCast, Int.toNat_natCast, mk_extract, hx, w64 (n := (s.size : Int) + 1) (by omega) (by omega), spec_l06Words.l0, if_neg (by omega)]
    rfl
  | succ d ih =>
    intro k i b out hd hi hb hout hw hk
    obtain ⟨k, rfl⟩ : ∃ m, k = m + 1 := ⟨k - 1, by omega⟩
    have hlt : i < s.data.toList.length := by omega
    have hdrop : s.data.toList.drop i = s.data.toList[i] :: s.data.toList.drop (i + 1) := List.drop_eq_getElem_cons hlt
    have htake : (s.data.toList.drop b).take (i + 1 - b) = (s.data.toList.drop b).take (i - b) ++ [s.data.toList[i]] := by
      rw [show i + 1 - b = (i - b) + 1 by omega, List.take_add_one, List.getElem?_drop, show b + (i - b) = i by omega, List.getElem?_eq_getElem hlt]
      rfl
    generalize hc : s.data.toList[i] = c at hdrop htake
    have hbt : bt s (i : Int) = (c.toNat : Int) := by rw [bt_list s i hlt, hc]
    rw [spec_l06Words.l0, if_pos (by omega), if_neg (by omega), if_pos (by omega), if_pos (by omega), hbt, w64 (n := (i : Int) + 1) (by omega) (by omega), show (i : Int) + 1 = ((i + 1 : Nat) : Int) by omega]
    by_cases h2 : c = 32
    · subst h2
      have hparts : s.data.toList.drop b = (s.data.toList.drop b).take (i - b) ++ 32 :: s.data.toList.drop (i + 1) := by
        have h := (List.take_append_drop (i - b) (s.data.toList.drop b)).symm
        rw [List.drop_drop, show b + (i - b) = i by omega, hdrop] at h
        exact h
      rw [if_pos (show (((32 : UInt8).toNat : Nat) : Int) = 32 from rfl), if_pos (by omega), if_pos (by omega), if_pos (by omega), Int.toNat_natCast, Int.toNat_natCast, mk_extract, ih k (i + 1) (i + 1) _ (by omega) (by omega) (by omega) (by simp; omega) (by simp) (by omega)]
      have hp : parts (s.data.toList.drop b) = (s.data.toList.drop b).take (i - b) :: parts (s.data.toList.drop (i + 1)) := by
        have h := parts_app _ hw (s.data.toList.drop (i + 1))
        rw [← hparts] at h
        exact h
      rw [hp, List.map_cons, List.append_assoc]
      rfl
    · have hn : ¬ (c.toNat : Int) = 32 := fun e => h2 (UInt8.toNat_inj.1 (by show c.toNat = 32; omega))
      rw [if_neg hn, ih k (i + 1) b out (by omega) (by omega) (by omega) (by omega) (fun x hx => by
          rw [htake] at hx
          rcases List.mem_append.1 hx with hx | hx
          · exact hw x hx
          · rw [List.mem_singleton.1 hx]; exact h2) (by omega)]
theorem spec_words (s : ByteArray) (hs : s.size ≤ 1048576) (k : Nat) (hk : s.size + 2 ≤ k) : spec_l06Words.f k s = some ((parts s.data.toList).map mk) := by
  unfold spec_l06Words.f
  exact words_loop s hs s.size k 0 0 [] (by omega) (by omega) (by omega) (by simp) (by simp) hk
/-! ### both answers -/
theorem fin_lengths (s : ByteArray) (v : List Int) (p : List S55) : (fin s v p).1.length ≤ 24 ∧ (fin s v p).2.1.length ≤ 24 := by
  unfold fin
  by_cases h : pathB v p = true
  · obtain ⟨h1, h2, _⟩ := path_facts h
    rw [if_pos h]
    split
    · exact ⟨h1, h2⟩
    · exact ⟨by simp, by simp⟩
  · rw [if_neg h]
    exact ⟨by simp, by simp⟩
theorem fin_none (s : ByteArray) (hs : 0 < (parts s.data.toList).length) (v : List Int) (p : List S55) (h1 : (pathW v p).length = (parts s.data.toList).length) (h2 : Lib.lens (pathW v p) < Lib.lens (parts s.data.toList)) : fin s v p = ([], [], false) := by
  unfold fin
  by_cases h : pathB v p = true
  · rw [if_pos h, if_neg]
    intro e
    have hJ := J_parts s.data.toList
    rw [← hJ] at e
    have e := congrArg List.length e
    unfold pathT at e
    obtain ⟨x, r, e1⟩ : ∃ x r, pathW v p = x :: r := by
      cases hc : pathW v p with
      | nil => rw [hc, List.length_nil] at h1; omega
      | cons x r => exact ⟨x, r, rfl⟩
    obtain ⟨y, t, e2⟩ : ∃ x r, parts s.data.toList = x :: r := by
      cases hc : parts s.data.toList with
      | nil => rw [hc, List.length_nil] at hs; omega
      | cons x r => exact ⟨x, r, rfl⟩
    rw [e1, e2] at e h1 h2
    rw [J_length, J_length] at e
    simp only [List.length_cons] at h1
    omega
  · rw [if_neg h]
def endI (s : ByteArray) : Option (List Int × List S55) → List Int × List S55 × Bool
  | none => ([], [], false)
  | some (v, p) => fin s v p
theorem impl_end (s : ByteArray) (L : List ByteArray) (r : Option (List Int × List S55)) (k : Nat) (hk : 200 ≤ k) (h : impl_readPath.f k L = some (outI r)) : impl_ParsePath.j0 (k + 1) s L = some (endI s r) := by
  rw [impl_ParsePath.j0, h, Option.bind_some]
  cases r with
  | none =>
    show (impl_PathText.f k [] []).bind _ = _
    rw [impl_text [] [] k hk, Option.bind_some]
    rfl
  | some vp =>
    obtain ⟨v, p⟩ := vp
    show (impl_PathText.f k v p).bind _ = some (fin s v p)
    rw [impl_text v p k hk, Option.bind_some]
    unfold fin
    by_cases h : pathB v p = true
    · rw [if_pos h, if_pos h]
      show (if (mk (pathT v p)).toList = s.toList then some (v, p, true) else some ([], [], false)) = _
      rw [mk_toList, Lib.toList_data]
      split <;> rfl
    · rw [if_neg h, if_neg h]
      rfl
theorem parse_at (s : ByteArray) (hs : s.size ≤ 1048576) (k : Nat) (hk : 30000000 ≤ k) : ∃ R : List Int × List S55 × Bool, R.1.length ≤ 24 ∧ R.2.1.length ≤ 24 ∧ spec_ParsePath.f k s = some R ∧ impl_ParsePath.f k s = some R ∧ (R.2.2 = true → pathB R.1 R.2.1 = true ∧ pathT R.1 R.2.1 = s.data.toList) := by
  have hfin : ∀ v p, (fin s v p).2.2 = true → pathB (fin s v p).1 (fin s v p).2.1 = true ∧ pathT (fin s v p).1 (fin s v p).2.1 = s.data.toList := by
    intro v p
    unfold fin
    by_cases h : pathB v p = true
    · by_cases h2 : pathT v p = s.data.toList
      · rw [if_pos h, if_pos h2]; exact fun _ => ⟨h, h2⟩
      · rw [if_pos h, if_neg h2]; exact fun h => by cases h
    · rw [if_neg h]; exact fun h => by cases h
  obtain ⟨k, rfl⟩ : ∃ m, k = m + 1 := ⟨k - 1, by omega⟩
  unfold spec_ParsePath.f impl_ParsePath.f
  by_cases hz : s.toList = ([] : List UInt8)
  · rw [if_pos hz, if_pos hz]
    have hr : impl_readPath.f k [] = some (outI (some ([], []))) := by
      obtain ⟨k, rfl⟩ : ∃ m, k = m + 1 := ⟨k - 1, by omega⟩
      unfold impl_readPath.f
      rw [impl_readPath.l0, if_neg (by simp)]
      rfl
    have hd : s.data.toList = [] := by rw [← Lib.toList_data]; exact hz
    have hf : fin s [] [] = ([], [], true) := by
      unfold fin
      rw [if_pos (show pathB [] [] = true from rfl), if_pos (by rw [hd]; rfl)]
    rw [impl_end s [] (some ([], [])) k (by omega) hr]
    exact ⟨([], [], true), by simp, by simp, rfl, congrArg some hf, fun _ => ⟨rfl, by rw [hd]; rfl⟩⟩
  · rw [if_neg hz, if_neg hz, spec_words s hs (k + 1) (by omega), Option.bind_some, strings_Split.f, if_pos (by omega), if_pos (by decide), Option.bind_some, split_mk]
    have hp0 := parts_ne s.data.toList
    have hpl : 0 < (parts s.data.toList).length := by
      cases h : parts s.data.toList with
      | nil => exact absurd h hp0
      | cons _ _ => exact Nat.succ_pos _
    have hpn := parts_length s.data.toList
    have hsz := Lib.size_eq s
    have hwd : wd ((parts s.data.toList).map mk) = parts s.data.toList := by
      unfold wd
      rw [List.map_map, show ((fun x : ByteArray => x.data.toList) ∘ mk) = id from rfl, List.map_id]
    have hJ := congrArg List.length (J_parts s.data.toList)
    have hwl : ∀ w ∈ (parts s.data.toList).map mk, w.size + 30 ≤ 1048606 := by
      intro w hw
      obtain ⟨x, hx, rfl⟩ := List.mem_map.1 hw
      rw [mk_size]
      have : ∀ M : List (List UInt8), ∀ x ∈ M, x.length ≤ (J M).length := by
        intro M x hx
        cases M with
        | nil => cases hx
        | cons y r =>
          rw [J_length]
          have hl : ∀ M : List (List UInt8), ∀ x ∈ M, x.length ≤ Lib.lens M := by
            intro M
            induction M with
            | nil => intro x hx; cases hx
            | cons z M ih =>
              intro x hx
              rw [lens_cons]
              rcases List.mem_cons.1 hx with rfl | hx
              · omega
              · have := ih x hx; omega
          have := hl (y :: r) x hx
          omega
      have := this _ x hx
      omega
    have hlen : ((parts s.data.toList).map mk).length = (parts s.data.toList).length := List.length_map _
    obtain ⟨r, e, hb⟩ := both_read s ((parts s.data.toList).map mk) 1048606 (by omega) (((parts s.data.toList).map mk).length + 1) ((parts s.data.toList).map mk) [] [] [] k (k + 1) rfl (by omega) rfl rfl (Nat.le_refl _) (by simp) (by simp) hwl (by omega) (by omega)
    rw [impl_end s _ r k (by omega) e]
    rcases hb with ⟨v', p', rfl, ha⟩ | ⟨ha, hno⟩
    · obtain ⟨f1, f2⟩ := fin_lengths s v' p'
      exact ⟨fin s v' p', f1, f2, ha, rfl, hfin v' p'⟩
    · refine ⟨([], [], false), by simp, by simp, ha, ?_, fun h => by cases h⟩
      cases r with
      | none => rfl
      | some vp =>
        obtain ⟨v', p'⟩ := vp
        show some (fin s v' p') = _
        rcases hno v' p' rfl with h | ⟨h1, h2⟩
        · rw [fin_long s v' p' h]
        · rw [hlen] at h1
          rw [hwd] at h2
          rw [fin_none s hpl v' p' h1 h2]
theorem parse_same (s : ByteArray) (hs : s.size ≤ 1048576) : ∃ R : List Int × List S55 × Bool, R.1.length ≤ 24 ∧ R.2.1.length ≤ 24 ∧ (∀ k, 30000000 ≤ k → spec_ParsePath.f k s = some R) ∧ (∀ k, 30000000 ≤ k → impl_ParsePath.f k s = some R) ∧ (R.2.2 = true → pathB R.1 R.2.1 = true ∧ pathT R.1 R.2.1 = s.data.toList) := by
  obtain ⟨K, hK⟩ : ∃ K, K = 30000000 := ⟨_, rfl⟩
  rw [← hK]
  obtain ⟨R, h1, h2, e1, e2, h3⟩ := parse_at s hs K (by omega)
  refine ⟨R, h1, h2, fun k hk => ?_, fun k hk => ?_, h3⟩
  · obtain ⟨m, rfl⟩ : ∃ m, k = K + m := ⟨k - K, by omega⟩
    exact all_rounds (g := fun k => spec_ParsePath.f k s) (spec_ParsePath.mono s) K R e1 m
  · obtain ⟨m, rfl⟩ : ∃ m, k = K + m := ⟨k - K, by omega⟩
    exact all_rounds (g := fun k => impl_ParsePath.f k s) (impl_ParsePath.mono s) K R e2 m

theorem read_back (s : ByteArray) (D : List UInt8) (hD : s.data.toList = D) (hl : D.length ≤ 10) (hd : ∀ c ∈ D, 48 ≤ c.toNat ∧ c.toNat ≤ 57) (v : Nat) (hv : pv D = v) (hv1 : v ≤ 1000000000) (hi : Lib.itoa (v : Int) = D) (d : Nat) :
    ∀ (k i : Nat), D.length - i = d → i ≤ D.length → pv (D.take i) < 10 ^ i → d < k → impl_ReadDecimal.l0 k s ((pv (D.take i) : Nat) : Int) (i : Int) = some ((v : Int), true) := by
  have hsz : s.size = D.length := by rw [← hD]; simp
  induction d with
  | zero =>
    intro k i hd0 hi0 _ hk
    obtain ⟨k, rfl⟩ : ∃ m, k = m + 1 := ⟨k - 1, by omega⟩
    rw [impl_ReadDecimal.l0, if_neg (by omega), List.take_of_length_le (by omega), hv, if_neg (by omega), impl_dec _ (by omega) (by omega), Option.bind_some, hi, Lib.toList_data, Lib.toList_data, hD, if_pos (by simp)]
  | succ d ih =>
    intro k i hd0 hi0 hp hk
    obtain ⟨k, rfl⟩ : ∃ m, k = m + 1 := ⟨k - 1, by omega⟩
    have hlt : i < D.length := by omega
    have hs : i < s.size := by omega
    have hc := hd D[i] (List.getElem_mem hlt)
    have hb : bt s (i : Int) = ((D[i].toNat : Nat) : Int) := by
      rw [bt_at' s i hs]
      congr 2
      have h3 : s.data.toList[i]'(by simpa using hs) = s[i]'hs := by rw [Array.getElem_toList]; rfl
      rw [← h3]
      simp only [hD]
    have ht : pv (D.take (i + 1)) = 10 * pv (D.take i) + (D[i].toNat - 48) := by
      rw [← List.take_append_getElem hlt, pv_snoc]
    have h10 : (10 : Nat) ^ i ≤ 10 ^ 10 := Nat.pow_le_pow_right (by decide) (by omega)
    have h11 : (10 : Nat) ^ 10 = 10000000000 := rfl
    have h12 : (10 : Nat) ^ (i + 1) = 10 ^ i * 10 := Nat.pow_succ 10 i
    have hnext := ih k (i + 1) (by omega) (by omega) (by omega) (by omega)
    rw [ht] at hnext
    generalize pv (D.take i) = n at *
    rw [impl_ReadDecimal.l0, if_pos (by omega), if_pos (by omega), hb, if_neg (by omega), if_neg (by omega), w64 (n := (n : Int) * 10) (by omega) (by omega), show (((D[i].toNat : Nat) : Int) - 48) % 256 = ((D[i].toNat - 48 : Nat) : Int) by omega,
      w64 (n := (n : Int) * 10 + ((D[i].toNat - 48 : Nat) : Int)) (by omega) (by omega), w64 (n := (i : Int) + 1) (by omega) (by omega), show (i : Int) + 1 = ((i + 1 : Nat) : Int) by omega, show (n : Int) * 10 + ((D[i].toNat - 48 : Nat) : Int) = ((10 * n + (D[i].toNat - 48) : Nat) : Int) by omega]
    exact hnext
theorem RD_back (v : Nat) (hv : v ≤ 1000000000) : RD (mk (Lib.decDigits v)) = ((v : Int), true) := by
  have hi : Lib.itoa (v : Int) = Lib.decDigits v := by
    unfold Lib.itoa
    rw [if_neg (by omega)]
    congr 1
  obtain ⟨h1, h2, h3, h4⟩ := dec_facts v
  have h5 := h4 9 (by have : (10 : Nat) ^ 10 = 10000000000 := rfl; omega)
  have hsz : (mk (Lib.decDigits v)).size = (Lib.decDigits v).length := mk_size _
  have e : impl_ReadDecimal.f (50 + 1) (mk (Lib.decDigits v)) = some ((v : Int), true) := by
    unfold impl_ReadDecimal.f
    rw [if_neg (by omega), decide_eq_false (by omega), impl_ReadDecimal.j0, if_neg (by decide)]
    exact read_back (mk (Lib.decDigits v)) (Lib.decDigits v) rfl (by omega) h2 v h1 hv hi (Lib.decDigits v).length 50 0 (by omega) (by omega) (by simp [pv]) (by omega)
  have h := (RD_facts (mk (Lib.decDigits v))).2.1 (50 + 1) (by omega)
  rw [e] at h
  exact (Option.some.inj h).symm
theorem SI_back {x : Int} (h0 : -8388608 ≤ x) (h1 : x ≤ 8388608) : SI (mk (Lib.itoa x)) = (x, true) := by
  unfold SI
  rw [mk_data]
  by_cases hx : x < 0
  · have e : Lib.itoa x = 45 :: Lib.decDigits x.natAbs := by
      unfold Lib.itoa
      rw [if_pos hx]
    rw [e, if_pos ((prefix_minus _).2 ⟨_, rfl⟩), List.drop_one, List.tail_cons, RD_back _ (by omega)]
    simp only [Prod.mk.injEq, and_true]
    omega
  · have e : Lib.itoa x = Lib.decDigits x.toNat := by
      unfold Lib.itoa
      rw [if_neg hx]
    rw [e, if_neg, RD_back _ (by omega)]
    · simp only [Prod.mk.injEq, and_true]
      omega
    · intro hp
      obtain ⟨t, ht⟩ := (prefix_minus _).1 hp
      obtain ⟨_, h2, _⟩ := dec_facts x.toNat
      have := (h2 45 (by rw [ht]; simp)).1
      exact absurd this (by decide)
theorem letter_verb {a : Int} (h : 0 ≤ needI a) : verbL [letterB a] = a := by
  rcases five h with rfl | rfl | rfl | rfl | rfl <;> decide
/-! ### the words of a right path are read as the path -/
def Near (q : S55) : Prop := (-8388608 ≤ q.f0 ∧ q.f0 ≤ 8388608) ∧ (-8388608 ≤ q.f1 ∧ q.f1 ≤ 8388608)
theorem points_back (v : List Int) (a : Int) (L : List ByteArray) (k : Nat) (hk : 100 ≤ k) : ∀ (qs done : List S55) (j : Int), (∀ q ∈ qs, Near q) → 0 ≤ j → needI a - j = (qs.length : Int) → done.length + qs.length ≤ 1000 →
    impl_readPath.l1 (k + qs.length + 1) ((qs.flatMap pairW).map mk ++ L) (needI a) j v done = impl_readPath.l0 k L v (done ++ qs) := by
  have hn := needI_in a
  intro qs
  induction qs with
  | nil =>
    intro done j _ h0 hj _
    rw [List.length_nil] at hj
    rw [impl_readPath.l1, if_neg (by omega), List.append_nil]
    rfl
  | cons q qs ih =>
    intro done j hq h0 hj hd
    obtain ⟨⟨a1, a2⟩, b1, b2⟩ := hq q List.mem_cons_self
    rw [List.length_cons] at hj hd
    have z1 : (mk (Lib.itoa q.f0)).size ≤ 8 := by rw [mk_size]; exact itoa_len a1 a2
    have z2 : (mk (Lib.itoa q.f1)).size ≤ 8 := by rw [mk_size]; exact itoa_len b1 b2
    have e : ((q :: qs).flatMap pairW).map mk ++ L = mk (Lib.itoa q.f0) :: mk (Lib.itoa q.f1) :: ((qs.flatMap pairW).map mk ++ L) := rfl
    rw [e]
    generalize hM : (qs.flatMap pairW).map mk ++ L = M
    have r0 : rdOf ByteArray.empty (mk (Lib.itoa q.f0) :: mk (Lib.itoa q.f1) :: M) 0 = mk (Lib.itoa q.f0) := rfl
    have r1 : rdOf ByteArray.empty (mk (Lib.itoa q.f0) :: mk (Lib.itoa q.f1) :: M) 1 = mk (Lib.itoa q.f1) := rfl
    rw [List.length_cons, show k + (qs.length + 1) + 1 = (k + qs.length + 1) + 1 by omega, impl_readPath.l1, if_pos (by omega), if_pos (by simp only [List.length_cons]; omega), r0, impl_signed _ _ (by omega), Option.bind_some, if_pos (by simp only [List.length_cons]; omega), r1, impl_signed _ _ (by omega), Option.bind_some, SI_back a1 a2, SI_back b1 b2]
    rw [if_pos rfl, if_pos rfl, if_pos (by omega), if_pos (by simp only [List.length_cons]; omega), w64 (n := j + 1) (by omega) (by omega)]
    have h := ih (done ++ [q]) (j + 1) (fun x hx => hq x (List.mem_cons_of_mem _ hx)) (by omega) (by omega) (by rw [List.length_append, List.length_singleton]; omega)
    rw [hM, List.append_assoc] at h
    exact h
theorem pairs_count (qs : List S55) : (qs.flatMap pairW).length = 2 * qs.length := by
  induction qs with
  | nil => rfl
  | cons q qs ih => simp only [List.flatMap_cons, List.length_append, List.length_cons, pairW, ih, List.length_nil]; omega
theorem pathW_count : ∀ (v : List Int) (p : List S55), needs v = p.length → (pathW v p).length = v.length + 2 * p.length
  | [], p, h => by
    obtain rfl : p = [] := List.eq_nil_of_length_eq_zero (by rw [← h]; rfl)
    rfl
  | a :: v, p, h => by
    rw [needs_cons] at h
    rw [pathW, List.length_cons, List.length_append, pairs_count, pathW_count v _ (by rw [List.length_drop]; omega), List.length_take, List.length_drop, List.length_cons]
    omega
theorem verbs_back : ∀ (vs pre : List Int) (ps done : List S55) (k : Nat), (∀ a ∈ vs, 0 ≤ needI a) → needs vs = ps.length → (∀ q ∈ ps, Near q) → pre.length + vs.length ≤ 100 → done.length + ps.length ≤ 100 → 7 * vs.length + 110 ≤ k →
    impl_readPath.l0 k ((pathW vs ps).map mk) pre done = some (pre ++ vs, done ++ ps, true) := by
  intro vs
  induction vs with
  | nil =>
    intro pre ps done k _ hn _ _ _ hk
    obtain rfl : ps = [] := List.eq_nil_of_length_eq_zero (by rw [← hn]; rfl)
    obtain ⟨k, rfl⟩ : ∃ m, k = m + 1 := ⟨k - 1, by omega⟩
    have e : (pathW [] ([] : List S55)).map mk = [] := rfl
    rw [e, impl_readPath.l0, if_neg (by simp), List.append_nil, List.append_nil]
  | cons a vs ih =>
    intro pre ps done k hv hn hq hb1 hb2 hk
    have ha := hv a List.mem_cons_self
    have hni := needI_in a
    have hf := needI_ok ha
    rw [needs_cons] at hn
    rw [List.length_cons] at hb1 hk
    obtain ⟨k, rfl⟩ : ∃ m, k = (m + (needI a).toNat + 1) + 1 + 1 := ⟨k - 3 - (needI a).toNat, by omega⟩
    have hlen : (ps.take (needI a).toNat).length = (needI a).toNat := by rw [List.length_take]; omega
    have hcount : (pathW vs (ps.drop (needI a).toNat)).length = vs.length + 2 * (ps.length - (needI a).toNat) := by
      rw [pathW_count _ _ (by rw [List.length_drop]; omega), List.length_drop]
    have e : (pathW (a :: vs) ps).map mk = mk [letterB a] :: (((ps.take (needI a).toNat).flatMap pairW).map mk ++ (pathW vs (ps.drop (needI a).toNat)).map mk) := by
      rw [pathW, List.map_cons, List.map_append]
    have hM : (((ps.take (needI a).toNat).flatMap pairW).map mk ++ (pathW vs (ps.drop (needI a).toNat)).map mk).length = 2 * (needI a).toNat + (vs.length + 2 * (ps.length - (needI a).toNat)) := by
      rw [List.length_append, List.length_map, List.length_map, pairs_count, hlen, hcount]
    have hp := points_back (pre ++ [a]) a ((pathW vs (ps.drop (needI a).toNat)).map mk) k (by omega) (ps.take (needI a).toNat) done 0 (fun q hm => hq q (List.mem_of_mem_take hm)) (by omega) (by omega) (by omega)
    rw [hlen] at hp
    have hr := ih (pre ++ [a]) (ps.drop (needI a).toNat) (done ++ ps.take (needI a).toNat) k (fun x hx => hv x (List.mem_cons_of_mem _ hx)) (by rw [List.length_drop]; omega) (fun q hm => hq q (List.mem_of_mem_drop hm)) (by rw [List.length_append, List.length_singleton]; omega) (by rw [List.length_append, List.length_drop, hlen]; omega) (by omega)
    rw [e]
    generalize hW : (((ps.take (needI a).toNat).flatMap pairW).map mk ++ (pathW vs (ps.drop (needI a).toNat)).map mk) = M at hM hp
    have r0 : rdOf ByteArray.empty (mk [letterB a] :: M) 0 = mk [letterB a] := rfl
    have hidx : strings_Index.f (⟨#[77, 76, 81, 67, 90]⟩ : ByteArray) (mk [letterB a]) = some (Go.Lib.index (⟨#[77, 76, 81, 67, 90]⟩ : ByteArray).data.toList (mk [letterB a]).data.toList) := by
      unfold strings_Index.f
      rw [if_pos (by decide)]
    have hs : (mk [letterB a]).size = 1 := rfl
    have hverb : verbL (mk [letterB a]).data.toList = a := letter_verb ha
    rw [impl_readPath.l0, if_pos (by simp only [List.length_cons]; omega), if_pos (by simp only [List.length_cons]; omega), r0, hidx, Option.bind_some, if_pos (by omega), impl_verb _ hs, hverb, if_neg (by omega), impl_need, Option.bind_some, w64 (n := 2 * needI a) (by omega) (by omega), w64 (n := 1 + 2 * needI a) (by omega) (by omega), decide_eq_false (by simp only [List.length_cons]; omega),
      impl_readPath.j1, if_neg (by decide), if_pos (by simp only [List.length_cons]; omega), if_pos (by omega), impl_need, Option.bind_some]
    refine Eq.trans hp ?_
    rw [hr, List.append_assoc, List.append_assoc, List.take_append_drop]
    rfl
theorem word_bytes (v : List Int) (p : List S55) (hv : ∀ a ∈ v, 0 ≤ needI a) : ∀ x ∈ pathW v p, ∀ b ∈ x, b ≠ 32 := by
  have hit : ∀ n : Int, ∀ b ∈ Lib.itoa n, b ≠ 32 := by
    intro n b hb h
    subst h
    unfold Lib.itoa at hb
    split at hb
    · rcases List.mem_cons.1 hb with h | h
      · exact absurd h (by decide)
      · have := ((dec_facts _).2.1 _ h).1
        exact absurd this (by decide)
    · have := ((dec_facts _).2.1 _ hb).1
      exact absurd this (by decide)
  induction v generalizing p with
  | nil => intro x hx; cases hx
  | cons a v ih =>
    intro x hx
    rw [pathW] at hx
    rcases List.mem_cons.1 hx with rfl | hx
    · intro b hb
      rw [List.mem_singleton.1 hb]
      rcases five (hv a List.mem_cons_self) with rfl | rfl | rfl | rfl | rfl <;> decide
    · rcases List.mem_append.1 hx with hx | hx
      · obtain ⟨q, _, hq⟩ := List.mem_flatMap.1 hx
        simp only [pairW, List.mem_cons, List.mem_nil_iff, or_false] at hq
        rcases hq with rfl | rfl
        · exact hit _
        · exact hit _
      · exact ih _ (fun c hc => hv c (List.mem_cons_of_mem _ hc)) x hx
theorem pathT_small {v : List Int} {p : List S55} (h : pathB v p = true) : (pathT v p).length ≤ 2000 := by
  obtain ⟨h1, h2, h3, h4, h5⟩ := path_facts h
  have hs : ∀ x ∈ pathW v p, x.length ≤ 20 := by
    clear h h1 h2 h4 h3
    induction v generalizing p with
    | nil => intro x hx; cases hx
    | cons a v ih =>
      intro x hx
      rw [pathW] at hx
      rcases List.mem_cons.1 hx with rfl | hx
      · exact Nat.le_of_ble_eq_true rfl
      · rcases List.mem_append.1 hx with hx | hx
        · exact pairs_small _ (fun q hx => h5 q (List.mem_of_mem_take hx)) x hx
        · exact ih (fun q hx => h5 q (List.mem_of_mem_drop hx)) x hx
  have := J_small _ hs
  rw [pathW_count v p h4] at this
  unfold pathT
  omega
theorem parse_back {v : List Int} {p : List S55} (h : pathB v p = true) (k : Nat) (hk : 30000000 ≤ k) : impl_ParsePath.f k (mk (pathT v p)) = some (v, p, true) := by
  obtain ⟨h1, h2, h3, h4, h5⟩ := path_facts h
  have hsm := pathT_small h
  have hfin : fin (mk (pathT v p)) v p = (v, p, true) := by
    unfold fin
    rw [if_pos h, if_pos (mk_data _).symm]
  have hr := verbs_back v [] p [] (k - 1) h3 h4 h5 (by simp; omega) (by simp; omega) (by omega)
  rw [List.nil_append, List.nil_append] at hr
  obtain ⟨k, rfl⟩ : ∃ m, k = m + 1 := ⟨k - 1, by omega⟩
  rw [Nat.add_sub_cancel] at hr
  unfold impl_ParsePath.f
  by_cases hz : (mk (pathT v p)).toList = ([] : List UInt8)
  · rw [if_pos hz]
    rw [mk_toList] at hz
    cases v with
    | nil =>
      obtain rfl : p = [] := List.eq_nil_of_length_eq_zero (by rw [← h4]; rfl)
      rw [impl_end _ [] (some ([], [])) k (by omega) (show impl_readPath.f k [] = _ from hr)]
      exact congrArg some hfin
    | cons a v =>
      unfold pathT at hz
      rw [pathW, J_cons] at hz
      cases hz
  · rw [if_neg hz, strings_Split.f, if_pos (by rw [mk_size]; omega), if_pos (by decide), Option.bind_some, split_mk, mk_data]
    rw [mk_toList] at hz
    have hne : pathW v p ≠ [] := by
      intro e
      apply hz
      unfold pathT
      rw [e]
      rfl
    have hp : parts (pathT v p) = pathW v p := parts_J _ hne (word_bytes v p h3)
    rw [hp, impl_end _ _ (some (v, p)) k (by omega) (show impl_readPath.f k _ = _ from hr)]
    exact congrArg some hfin

/-- A draw of one byte, wherever the reader stands. -/
theorem draw_byte (l : List Int) (hl : l.length ≤ 140737488355328) (i h : Int) (h0 : 0 ≤ i) (h1 : i ≤ l.length) :
    ∃ x i' h' : Int, spec_l01Byte.f l i h = some (x, i', h') ∧ 0 ≤ x ∧ x < 256 ∧ 0 ≤ i' ∧ i' ≤ l.length := by
  unfold spec_l01Byte.f
  by_cases hlt : i < (l.length : Int)
  · rw [if_pos hlt, if_pos h0, w64 (n := i + 1) (by omega) (by omega)]
    exact ⟨_, _, _, rfl, (and255 _).1, (and255 _).2, by omega, by omega⟩
  · rw [if_neg hlt]
    exact ⟨_, _, _, rfl, (and255 _).1, (and255 _).2, h0, h1⟩

/-- A drawn number below n. -/
theorem draw_below (l : List Int) (hl : l.length ≤ 140737488355328) (i h : Int) (h0 : 0 ≤ i) (h1 : i ≤ l.length) (n : Int) (hn : 0 < n) :
    ∃ x i' h' : Int, spec_l01Below.f l i h n = some (x, i', h') ∧ 0 ≤ x ∧ x < n ∧ 0 ≤ i' ∧ i' ≤ l.length := by
  unfold spec_l01Below.f
  obtain ⟨x, i1, g1, e1, a1, b1, c1, d1⟩ := draw_byte l hl i h h0 h1
  rw [if_neg (by omega)]
  by_cases hs : n ≤ 256
  · rw [if_pos hs, e1]
    simp only [Option.bind_some]
    rw [if_neg (by omega), tmod_pos a1]
    exact ⟨_, _, _, rfl, Int.emod_nonneg _ (by omega), Int.emod_lt_of_pos _ hn, c1, d1⟩
  · obtain ⟨y, i2, g2, e2, a2, b2, c2, d2⟩ := draw_byte l hl i1 g1 c1 d1
    obtain ⟨z, i3, g3, e3, a3, b3, c3, d3⟩ := draw_byte l hl i2 g2 c2 d2
    obtain ⟨w, i4, g4, e4, a4, b4, c4, d4⟩ := draw_byte l hl i3 g3 c3 d3
    rw [if_neg hs, e1]
    simp only [Option.bind_some, e2, e3, e4]
    rw [w64 (n := x * 16777216) (by omega) (by omega), w64 (n := y * 65536) (by omega) (by omega), w64 (n := z * 256) (by omega) (by omega), w64 (n := x * 16777216 + y * 65536) (by omega) (by omega),
      w64 (n := x * 16777216 + y * 65536 + z * 256) (by omega) (by omega), w64 (n := x * 16777216 + y * 65536 + z * 256 + w) (by omega) (by omega), if_neg (by omega), tmod_pos (by omega)]
    exact ⟨_, _, _, rfl, Int.emod_nonneg _ (by omega), Int.emod_lt_of_pos _ hn, c4, d4⟩

theorem draw_new_loop (l : List Int) (hl : l.length ≤ 140737488355328) (d : Nat) : ∀ (k : Nat) (h i : Int), 0 ≤ i → i ≤ l.length → (l.length : Int) - i = d → d < k → ∃ h' : Int, spec_l01New.l0 k l h i = some (l, 0, h') := by
  induction d with
  | zero =>
    intro k h i h0 h1 hd hk
    obtain ⟨k, rfl⟩ : ∃ m, k = m + 1 := ⟨k - 1, by omega⟩
    simp only [spec_l01New.l0]
    rw [if_neg (by omega)]
    exact ⟨_, rfl⟩
  | succ d ih =>
    intro k h i h0 h1 hd hk
    obtain ⟨k, rfl⟩ : ∃ m, k = m + 1 := ⟨k - 1, by omega⟩
    simp only [spec_l01New.l0]
    have hlt : i < (l.length : Int) := by omega
    rw [if_pos hlt]
    by_cases h4 : i < 4000
    · rw [if_pos h4, if_pos h0, w64 (n := i + 1) (by omega) (by omega)]
      exact ih k _ (i + 1) (by omega) (by omega) (by omega) (by omega)
    · rw [if_neg h4]
      exact ⟨_, rfl⟩

theorem draw_new (l : List Int) (hl : l.length ≤ 140737488355328) (k : Nat) (hk : l.length < k) : ∃ h : Int, spec_l01New.f k l = some (l, 0, h) := by
  unfold spec_l01New.f
  exact draw_new_loop l hl l.length k _ 0 (by omega) (by omega) (by omega) hk

theorem draw_point (l : List Int) (hl : l.length ≤ 140737488355328) (i h : Int) (h0 : 0 ≤ i) (h1 : i ≤ l.length) :
    ∃ x y i' h' : Int, spec_l04Point.f l i h = some (x, y, i', h') ∧ (-300 ≤ x ∧ x < 3300) ∧ (-300 ≤ y ∧ y < 3300) ∧ 0 ≤ i' ∧ i' ≤ l.length := by
  unfold spec_l04Point.f
  obtain ⟨x, i1, g1, e1, a1, b1, c1, d1⟩ := draw_below l hl i h h0 h1 3600 (by omega)
  obtain ⟨y, i2, g2, e2, a2, b2, c2, d2⟩ := draw_below l hl i1 g1 c1 d1 3600 (by omega)
  rw [e1]
  simp only [Option.bind_some, e2]
  rw [w64 (n := x - 300) (by omega) (by omega), w64 (n := y - 300) (by omega) (by omega)]
  exact ⟨_, _, _, _, rfl, by omega, by omega, c2, d2⟩

/-! ### drawn paths, right ones and others -/
theorem any_points (l : List Int) (hl : l.length ≤ 140737488355328) (i verb : Int) (v : List Int) (n : Nat) : ∀ (k : Nat) (j st h : Int) (p : List S55), 0 ≤ j → needI verb - j = n → 0 ≤ st → st ≤ l.length → p.length + n ≤ 24 →
    ∃ (st' h' : Int) (p' : List S55), spec_l06Path.l1 (k + n + 1) i verb j l st h v p = spec_l06Path.l0 k (wrap64 (i + 1)) l st' h' v p' ∧ p'.length = p.length + n ∧ 0 ≤ st' ∧ st' ≤ l.length := by
  have hn := needI_in verb
  induction n with
  | zero =>
    intro k j st h p h0 hd s0 s1 hp
    rw [spec_l06Path.l1, spec_need, Option.bind_some, if_neg (by omega)]
    exact ⟨st, h, p, rfl, rfl, s0, s1⟩
  | succ n ih =>
    intro k j st h p h0 hd s0 s1 hp
    obtain ⟨x, y, st1, h1, e, hx, hy, t0, t1⟩ := draw_point l hl st h s0 s1
    rw [spec_l06Path.l1, spec_need, Option.bind_some, if_pos (by omega), e, Option.bind_some, if_pos (by omega), w64 (n := j + 1) (by omega) (by omega)]
    obtain ⟨st', h', p', e', g1, g3⟩ := ih k (j + 1) st1 h1 (p ++ [⟨x, y⟩]) (by omega) (by omega) t0 t1 (by simp; omega)
    refine ⟨st', h', p', e', ?_, g3⟩
    rw [g1, List.length_append, List.length_singleton]
    omega
theorem any_verb (l : List Int) (hl : l.length ≤ 140737488355328) (i h : Int) (h0 : 0 ≤ i) (h1 : i ≤ l.length) :
    ∃ x i' h' : Int, spec_l01PickInt.f l i h [2, 2, 2, 3, 4, 5, 1] = some (x, i', h') ∧ (1 ≤ x ∧ x ≤ 5) ∧ 0 ≤ i' ∧ i' ≤ l.length := by
  unfold spec_l01PickInt.f
  obtain ⟨x, i1, g1, e1, a1, b1, c1, d1⟩ := draw_below l hl i h h0 h1 7 (by omega)
  have e1 : spec_l01Below.f l i h (([2, 2, 2, 3, 4, 5, 1] : List Int).length : Int) = some (x, i1, g1) := e1
  rw [e1, Option.bind_some]
  simp only
  rw [if_pos a1, if_pos (by simpa using b1)]
  obtain ⟨n, rfl⟩ := Int.eq_ofNat_of_zero_le a1
  have hn : n < 7 := by omega
  refine ⟨_, _, _, rfl, ?_, c1, d1⟩
  clear e1 a1 b1 c1 d1
  have z : ∀ n : Nat, n < 7 → 1 ≤ rd [2, 2, 2, 3, 4, 5, 1] (n : Int) ∧ rd [2, 2, 2, 3, 4, 5, 1] (n : Int) ≤ 5 := by decide
  exact z n hn
theorem any_loop (l : List Int) (hl : l.length ≤ 140737488355328) (n : Nat) : ∀ (k i : Nat) (st h : Int) (v : List Int) (p : List S55), 6 - i = n → i ≤ 6 → v.length = i → p.length ≤ 24 → (i = 0 → p.length = 0) → (0 < i → 0 < p.length) → 0 ≤ st → st ≤ l.length → 8 * n + 8 < k →
    ∃ (v' : List Int) (p' : List S55) (st' h' : Int), spec_l06Path.l0 k (i : Int) l st h v p = some (v', p', st', h') ∧ (0 < v'.length ∧ v'.length ≤ 24) ∧ (0 < p'.length ∧ p'.length ≤ 24) ∧ 0 ≤ st' ∧ st' ≤ l.length := by
  induction n with
  | zero =>
    intro k i st h v p hn hi hv hp hp0 hp1 s0 s1 hk
    obtain ⟨k, rfl⟩ : ∃ m, k = m + 1 := ⟨k - 1, by omega⟩
    obtain ⟨x, i1, g1, e1, a1, b1, c1, d1⟩ := draw_below l hl st h s0 s1 6 (by omega)
    rw [spec_l06Path.l0, e1, Option.bind_some]
    simp only
    rw [w64 (n := 1 + x) (by omega) (by omega), if_neg (by omega)]
    exact ⟨v, p, _, _, rfl, ⟨by omega, by omega⟩, ⟨hp1 (by omega), hp⟩, c1, d1⟩
  | succ n ih =>
    intro k i st h v p hn hi hv hp hp0 hp1 s0 s1 hk
    obtain ⟨k, rfl⟩ : ∃ m, k = m + 7 := ⟨k - 7, by omega⟩
    obtain ⟨x, i1, g1, e1, a1, b1, c1, d1⟩ := draw_below l hl st h s0 s1 6 (by omega)
    rw [spec_l06Path.l0, e1, Option.bind_some]
    simp only
    rw [w64 (n := 1 + x) (by omega) (by omega)]
    by_cases hx : (i : Int) < 1 + x
    · rw [if_pos hx]
      obtain ⟨w, i2, g2, e2, hw, c2, d2⟩ := any_verb l hl i1 g1 c1 d1
      rw [e2, Option.bind_some]
      simp only
      have go : ∀ verb : Int, 1 ≤ verb ∧ verb ≤ 5 → (i = 0 → verb = 1) →
          ∃ (v' : List Int) (p' : List S55) (st' h' : Int), spec_l06Path.j2 (k + 5) (i : Int) verb l i2 g2 v p = some (v', p', st', h') ∧ (0 < v'.length ∧ v'.length ≤ 24) ∧ (0 < p'.length ∧ p'.length ≤ 24) ∧ 0 ≤ st' ∧ st' ≤ l.length := by
        intro verb hb hf
        have hn0 : 0 ≤ needI verb ∧ needI verb ≤ 3 := by
          refine ⟨?_, (needI_in verb).2⟩
          unfold needI
          repeat' split
          all_goals omega
        have hn1 : i = 0 → needI verb = 1 := fun h => by rw [hf h]; rfl
        rw [spec_l06Path.j2, spec_need, Option.bind_some, w64 (n := (p.length : Int) + needI verb) (by omega) (by omega)]
        by_cases hm : (p.length : Int) + needI verb > 24
        · rw [if_pos hm]
          have hi0 : 0 < i := by
            rcases Nat.eq_zero_or_pos i with h | h
            · have := hp0 h; have := hn1 h; omega
            · exact h
          exact ⟨v, p, _, _, rfl, ⟨by omega, by omega⟩, ⟨hp1 hi0, hp⟩, c2, d2⟩
        · rw [if_neg hm, if_pos (by omega)]
          obtain ⟨m, hm2⟩ := Int.eq_ofNat_of_zero_le hn0.1
          obtain ⟨st', h', p', e', q1, q3, q4⟩ := any_points l hl (i : Int) verb (v ++ [verb]) m (k + 3 - m) 0 i2 g2 p (by omega) (by omega) c2 d2 (by omega)
          rw [show k + 3 - m + m + 1 = k + 4 by omega] at e'
          rw [e', w64 (n := (i : Int) + 1) (by omega) (by omega), show (i : Int) + 1 = ((i + 1 : Nat) : Int) by omega]
          refine ih _ (i + 1) st' h' _ p' (by omega) (by omega) (by simp [hv]) (by omega) (by omega) (fun _ => ?_) q3 q4 (by omega)
          rcases Nat.eq_zero_or_pos i with h | h
          · have := hn1 h; omega
          · have := hp1 h; omega
      by_cases hi0 : (i : Int) = 0
      · rw [if_pos hi0, spec_l06Path.j1, if_pos rfl]
        exact go 1 (by omega) (fun _ => rfl)
      · rw [if_neg hi0, w64 (n := (i : Int) - 1) (by omega) (by omega), if_pos (by omega), if_pos (by omega), spec_l06Path.j1]
        split
        · exact go 1 (by omega) (fun _ => rfl)
        · exact go w hw (fun h => by omega)
    · rw [if_neg hx]
      exact ⟨v, p, _, _, rfl, ⟨by omega, by omega⟩, ⟨hp1 (by omega), hp⟩, c1, d1⟩
theorem any_rect {a b c d : Int} (h1 : a < c) (h2 : b < d) (ha : 0 ≤ a ∧ a ≤ 8000) (hb : 0 ≤ b ∧ b ≤ 8000) (hc : 0 ≤ c ∧ c ≤ 8000) (hd : 0 ≤ d ∧ d ≤ 8000) : spec_RectPath.f a b c d = some ([1, 2, 2, 2, 5], [⟨a, b⟩, ⟨c, b⟩, ⟨c, d⟩, ⟨a, d⟩]) := by
  have fa : farB a = true := farB_true.2 ⟨by omega, by omega⟩
  have fb : farB b = true := farB_true.2 ⟨by omega, by omega⟩
  have fc : farB c = true := farB_true.2 ⟨by omega, by omega⟩
  have fd : farB d = true := farB_true.2 ⟨by omega, by omega⟩
  unfold spec_RectPath.f
  simp only [Option.bind_some, spec_empty, emB_false.2 ⟨h1, h2⟩, Bool.false_eq_true, if_false, spec_pointOk, rd_T55]
  simp [fa, fb, fc, fd]
theorem any_right (l : List Int) (hl : l.length ≤ 140737488355328) (i h : Int) (h0 : 0 ≤ i) (h1 : i ≤ l.length) (k : Nat) (hk : 100 < k) :
    ∃ (v : List Int) (p : List S55) (i' h' : Int), spec_l06Path.f k l i h = some (v, p, i', h') ∧ (0 < v.length ∧ v.length ≤ 24) ∧ (0 < p.length ∧ p.length ≤ 24) ∧ 0 ≤ i' ∧ i' ≤ l.length := by
  unfold spec_l06Path.f spec_l01Once.f
  obtain ⟨x, i1, g1, e1, a1, b1, c1, d1⟩ := draw_below l hl i h h0 h1 2 (by omega)
  rw [e1, Option.bind_some]
  simp only [Option.bind_some]
  by_cases hx : (x == 0) = true
  · rw [if_pos hx]
    obtain ⟨x2, i2, g2, e2, a2, b2, c2, d2⟩ := draw_below l hl i1 g1 c1 d1 2400 (by omega)
    obtain ⟨x3, i3, g3, e3, a3, b3, c3, d3⟩ := draw_below l hl i2 g2 c2 d2 2400 (by omega)
    obtain ⟨x4, i4, g4, e4, a4, b4, c4, d4⟩ := draw_below l hl i3 g3 c3 d3 1500 (by omega)
    obtain ⟨x5, i5, g5, e5, a5, b5, c5, d5⟩ := draw_below l hl i4 g4 c4 d4 1500 (by omega)
    rw [e2, Option.bind_some]
    simp only [Option.bind_some, e3, e4, e5]
    rw [w64 (n := x2 + 1) (by omega) (by omega), w64 (n := x3 + 1) (by omega) (by omega), w64 (n := x2 + 1 + x4) (by omega) (by omega), w64 (n := x3 + 1 + x5) (by omega) (by omega), any_rect (by omega) (by omega) (by omega) (by omega) (by omega) (by omega), Option.bind_some]
    exact ⟨_, _, _, _, rfl, ⟨by simp, by simp⟩, ⟨by simp, by simp⟩, c5, d5⟩
  · rw [if_neg hx]
    exact any_loop l hl 6 k 0 i1 g1 [] [] (by omega) (by omega) rfl (by simp) (fun _ => rfl) (fun h => absurd h (by omega)) c1 d1 (by omega)
theorem any_pick (L : List Int) (n : Nat) (hn : L.length = n) (h0 : 0 < n) (l : List Int) (hl : l.length ≤ 140737488355328) (i h : Int) (hi0 : 0 ≤ i) (hi1 : i ≤ l.length) : ∃ x i' h' : Int, spec_l01PickInt.f l i h L = some (x, i', h') ∧ 0 ≤ i' ∧ i' ≤ l.length := by
  unfold spec_l01PickInt.f
  obtain ⟨x, i1, g1, e1, a1, b1, c1, d1⟩ := draw_below l hl i h hi0 hi1 (L.length : Int) (by omega)
  rw [e1, Option.bind_some]
  simp only
  rw [if_pos a1, if_pos b1]
  exact ⟨_, _, _, rfl, c1, d1⟩
theorem any_point (l : List Int) (hl : l.length ≤ 140737488355328) (i h : Int) (h0 : 0 ≤ i) (h1 : i ≤ l.length) (k : Nat) (hk : 0 < k) : ∃ x y i' h' : Int, spec_l04AnyPoint.f k l i h = some (x, y, i', h') ∧ 0 ≤ i' ∧ i' ≤ l.length := by
  obtain ⟨k, rfl⟩ : ∃ m, k = m + 1 := ⟨k - 1, by omega⟩
  have tail : ∀ (i h x y : Int), 0 ≤ i → i ≤ l.length → ∃ x' y' i' h' : Int, spec_l04AnyPoint.j0 (k + 1) l i h x y = some (x', y', i', h') ∧ 0 ≤ i' ∧ i' ≤ l.length := by
    intro i h x y h0 h1
    obtain ⟨z, i1, g1, e1, a1, b1, c1, d1⟩ := draw_below l hl i h h0 h1 16 (by omega)
    rw [spec_l04AnyPoint.j0]
    unfold spec_l01Once.f
    rw [e1, Option.bind_some, Option.bind_some]
    simp only
    split
    · obtain ⟨q, i2, g2, e2, c2, d2⟩ := any_pick [-8388608, 8388608, 8388609] 3 rfl (by omega) l hl i1 g1 c1 d1
      rw [e2, Option.bind_some]
      exact ⟨_, _, _, _, rfl, c2, d2⟩
    · exact ⟨_, _, _, _, rfl, c1, d1⟩
  obtain ⟨x, y, i1, g1, e1, _, _, c1, d1⟩ := draw_point l hl i h h0 h1
  obtain ⟨z, i2, g2, e2, a2, b2, c2, d2⟩ := draw_below l hl i1 g1 c1 d1 12 (by omega)
  unfold spec_l04AnyPoint.f spec_l01Once.f
  rw [e1, Option.bind_some]
  simp only
  rw [e2, Option.bind_some, Option.bind_some]
  simp only
  split
  · obtain ⟨q, i3, g3, e3, c3, d3⟩ := any_pick [-8388608, 8388608, 8388609, -8388609, 9223372036854775807, -9223372036854775808] 6 rfl (by omega) l hl i2 g2 c2 d2
    rw [e3, Option.bind_some]
    exact tail _ _ _ _ c3 d3
  · exact tail _ _ _ _ c2 d2
theorem any_path (l : List Int) (hl : l.length ≤ 140737488355328) (i h : Int) (h0 : 0 ≤ i) (h1 : i ≤ l.length) (k : Nat) (hk : 100 < k) :
    ∃ (v : List Int) (p : List S55) (i' h' : Int), spec_l06Any.f k l i h = some (v, p, i', h') ∧ v.length ≤ 24 ∧ p.length ≤ 24 ∧ 0 ≤ i' ∧ i' ≤ l.length := by
  obtain ⟨v, p, i1, g1, e1, ⟨v0, v1⟩, ⟨p0, p1⟩, c1, d1⟩ := any_right l hl i h h0 h1 k hk
  obtain ⟨x, i2, g2, e2, a2, b2, c2, d2⟩ := draw_below l hl i1 g1 c1 d1 16 (by omega)
  unfold spec_l06Any.f
  rw [e1, Option.bind_some, Option.bind_some]
  simp only [List.nil_append, List.length_nil, Nat.zero_add, Option.bind_some]
  rw [if_pos (by omega), if_pos (by omega), e2, Option.bind_some]
  simp only
  by_cases x0 : x = 0
  · obtain ⟨y, i3, g3, e3, a3, b3, c3, d3⟩ := draw_below l hl i2 g2 c2 d2 (v.length : Int) (by omega)
    obtain ⟨z, i4, g4, e4, a4, b4, c4, d4⟩ := draw_below l hl i3 g3 c3 d3 7 (by omega)
    rw [if_pos x0, e3, Option.bind_some]
    simp only
    rw [e4, Option.bind_some]
    simp only
    rw [if_pos a3, if_pos b3]
    exact ⟨_, _, _, _, rfl, by rw [List.length_set]; exact v1, p1, c4, d4⟩
  · rw [if_neg x0]
    by_cases x1 : x = 1
    · rw [if_pos x1, if_pos (by omega)]
      exact ⟨_, _, _, _, rfl, v1, by rw [List.length_drop]; omega, c2, d2⟩
    · rw [if_neg x1]
      by_cases x2 : x = 2
      · obtain ⟨a, b, i3, g3, e3, c3, d3⟩ := any_point l hl i2 g2 c2 d2 k (by omega)
        rw [if_pos x2, e3, Option.bind_some]
        simp only
        rw [if_pos (by omega)]
        exact ⟨_, _, _, _, rfl, v1, by rw [List.length_set]; exact p1, c3, d3⟩
      · rw [if_neg x2]
        by_cases x3 : x = 3
        · rw [if_pos x3]
          exact ⟨_, _, _, _, rfl, by simp, by simp, c2, d2⟩
        · rw [if_neg x3]
          exact ⟨_, _, _, _, rfl, v1, p1, c2, d2⟩

/-! ### spoilt texts -/
theorem one_loop (l : List Int) (hl : l.length ≤ 140737488355328) (a : Int) (ha : a ≤ 5000) (d : Nat) : ∀ (k : Nat) (acc : List Int) (j i h : Int), 0 ≤ i → i ≤ l.length → 0 ≤ j → j ≤ a → a - j = d → (acc.length : Int) = j → d < k →
    ∃ (s : ByteArray) (i' h' : Int), spec_l01Text.l0 k a acc j l i h = some (s, i', h') ∧ (s.size : Int) = a := by
  induction d with
  | zero =>
    intro k acc j i h h0 h1 hj ha1 hd hacc hk
    obtain ⟨k, rfl⟩ : ∃ m, k = m + 1 := ⟨k - 1, by omega⟩
    rw [spec_l01Text.l0, if_neg (by omega)]
    exact ⟨_, _, _, rfl, by rw [str_size]; omega⟩
  | succ d ih =>
    intro k acc j i h h0 h1 hj ha1 hd hacc hk
    obtain ⟨k, rfl⟩ : ∃ m, k = m + 1 := ⟨k - 1, by omega⟩
    obtain ⟨x, i', h', e, a1, b1, c1, d1⟩ := draw_byte l hl i h h0 h1
    rw [spec_l01Text.l0, if_pos (by omega), e, Option.bind_some, if_pos (by omega), w64 (n := j + 1) (by omega) (by omega)]
    exact ih k _ (j + 1) i' h' c1 d1 (by omega) (by omega) (by omega) (by simp; omega) (by omega)
theorem one_byte (l : List Int) (hl : l.length ≤ 140737488355328) (i h : Int) (h0 : 0 ≤ i) (h1 : i ≤ l.length) (k : Nat) (hk : 10 < k) : ∃ (s : ByteArray) (i' h' : Int), spec_l01Text.f k l i h 1 = some (s, i', h') ∧ s.size = 1 := by
  obtain ⟨k, rfl⟩ : ∃ m, k = m + 1 := ⟨k - 1, by omega⟩
  unfold spec_l01Text.f
  rw [if_neg (by omega), spec_l01Text.j0]
  obtain ⟨s, i', h', e, hs⟩ := one_loop l hl 1 (by omega) 1 k [] 0 i h h0 h1 (by omega) (by omega) (by omega) rfl (by omega)
  exact ⟨s, i', h', e, by omega⟩
theorem ext_size (s : ByteArray) (b i : Nat) : (s.extract b i).size ≤ s.size := by
  rw [mk_extract, mk_size, List.length_take, List.length_drop, Lib.size_eq]
  omega
theorem spoilt (l : List Int) (hl : l.length ≤ 140737488355328) (i h : Int) (h0 : 0 ≤ i) (h1 : i ≤ l.length) (t : ByteArray) (ht : t.size ≤ 3000) (k : Nat) (hk : 100 < k) : ∃ (s : ByteArray) (i' h' : Int), spec_l02Spoilt.f k l i h t = some (s, i', h') ∧ s.size ≤ 10000 := by
  obtain ⟨k, rfl⟩ : ∃ m, k = m + 1 := ⟨k - 1, by omega⟩
  have tail : ∀ (b : Bool) (i h : Int), 0 ≤ i → i ≤ l.length → ∃ (s : ByteArray) (i' h' : Int), spec_l02Spoilt.j0 (k + 1) t b l i h = some (s, i', h') ∧ s.size ≤ 10000 := by
    intro b i h h0 h1
    rw [spec_l02Spoilt.j0]
    cases b
    · rw [if_neg (by decide)]
      exact ⟨_, _, _, rfl, by omega⟩
    · rw [if_pos rfl]
      by_cases hz : (t.size : Int) > 0
      · obtain ⟨x, i1, g1, e1, a1, b1, c1, d1⟩ := draw_below l hl i h h0 h1 (t.size : Int) (by omega)
        obtain ⟨s, i2, g2, e2, hs⟩ := one_byte l hl i1 g1 c1 d1 k (by omega)
        have s1 := ext_size t 0 x.toNat
        have s2 := ext_size t (x + 1).toNat t.size
        rw [if_pos hz, e1, Option.bind_some]
        simp only
        rw [if_pos a1, if_pos (by omega), e2, Option.bind_some]
        simp only
        rw [if_pos (by omega), w64 (n := x + 1) (by omega) (by omega), if_pos (by omega), if_pos (by omega), if_pos (by rw [ByteArray.size_append]; omega)]
        exact ⟨_, _, _, rfl, by rw [ByteArray.size_append, ByteArray.size_append]; omega⟩
      · rw [if_neg hz]
        exact ⟨_, _, _, rfl, by omega⟩
  obtain ⟨x, i1, g1, e1, a1, b1, c1, d1⟩ := draw_below l hl i h h0 h1 12 (by omega)
  unfold spec_l02Spoilt.f
  rw [e1, Option.bind_some]
  simp only
  by_cases x0 : x = 0
  · obtain ⟨s, i2, g2, e2, hs⟩ := one_byte l hl i1 g1 c1 d1 (k + 1) (by omega)
    rw [if_pos x0, e2, Option.bind_some]
    simp only
    rw [if_pos (by omega)]
    exact ⟨_, _, _, rfl, by rw [ByteArray.size_append]; omega⟩
  · rw [if_neg x0]
    by_cases x1 : x = 1
    · rw [if_pos x1, w64 (n := (t.size : Int) + 1) (by omega) (by omega)]
      obtain ⟨y, i2, g2, e2, a2, b2, c2, d2⟩ := draw_below l hl i1 g1 c1 d1 ((t.size : Int) + 1) (by omega)
      have s1 := ext_size t 0 y.toNat
      rw [e2, Option.bind_some]
      simp only
      rw [if_pos a2, if_pos (by omega)]
      exact ⟨_, _, _, rfl, by omega⟩
    · rw [if_neg x1]
      split
      · exact tail _ _ _ c1 d1
      · exact tail _ _ _ c1 d1
def wordsL : List ByteArray := [(⟨#[]⟩ : ByteArray), (⟨#[77]⟩ : ByteArray), (⟨#[77, 32, 49]⟩ : ByteArray), (⟨#[77, 32, 49, 32, 50, 32]⟩ : ByteArray), (⟨#[76, 32, 49, 32, 50]⟩ : ByteArray), (⟨#[77, 32, 49, 32, 50, 32, 90, 32, 90]⟩ : ByteArray), (⟨#[77, 32, 45, 48, 32, 49]⟩ : ByteArray), (⟨#[77, 32, 49, 32, 32, 50]⟩ : ByteArray), (⟨#[77, 32, 48, 49, 32, 50]⟩ : ByteArray), (⟨#[77, 32, 49, 32, 50, 32, 76, 32, 51, 32, 45, 52, 32, 90]⟩ : ByteArray)]
theorem picked (l : List Int) (hl : l.length ≤ 140737488355328) (i h : Int) (h0 : 0 ≤ i) (h1 : i ≤ l.length) : ∃ (s : ByteArray) (i' h' : Int), spec_l01Pick.f l i h wordsL = some (s, i', h') ∧ s.size ≤ 20 := by
  unfold spec_l01Pick.f
  obtain ⟨x, i1, g1, e1, a1, b1, c1, d1⟩ := draw_below l hl i h h0 h1 10 (by omega)
  have e1 : spec_l01Below.f l i h (wordsL.length : Int) = some (x, i1, g1) := e1
  rw [e1, Option.bind_some]
  simp only
  rw [if_pos a1, if_pos (show x < (wordsL.length : Int) from b1)]
  obtain ⟨n, rfl⟩ := Int.eq_ofNat_of_zero_le a1
  have hn : n < 10 := by omega
  refine ⟨_, _, _, rfl, ?_⟩
  have z : ∀ n : Nat, n < 10 → (rdOf ByteArray.empty wordsL (n : Int)).size ≤ 20 := by decide
  exact z n hn
theorem draw_parse (l : List Int) (hl : l.length ≤ 140737488355328) (k : Nat) (hk : l.length + 300 < k) : ∃ t : ByteArray, spec_DrawParsePath.f k l = some t ∧ t.size ≤ 10000 := by
  obtain ⟨h, e0⟩ := draw_new l hl k (by omega)
  obtain ⟨v, p, i1, g1, e1, v1, p1, c1, d1⟩ := any_path l hl 0 h (by omega) (by omega) k (by omega)
  obtain ⟨x, i2, g2, e2, a2, b2, c2, d2⟩ := draw_below l hl i1 g1 c1 d1 6 (by omega)
  have e3 := spec_text v p k (by omega)
  have hs : (if pathB v p = true then (mk (pathT v p), true) else (mk [], false)).1.size ≤ 2000 := by
    by_cases hb : pathB v p = true
    · rw [if_pos hb]
      show (mk (pathT v p)).size ≤ 2000
      rw [mk_size]
      exact pathT_small hb
    · rw [if_neg hb]
      exact Nat.zero_le _
  unfold spec_DrawParsePath.f
  rw [e0, Option.bind_some]
  simp only
  rw [e1, Option.bind_some]
  simp only
  rw [e3, Option.bind_some, e2, Option.bind_some]
  simp only
  generalize (if pathB v p = true then (mk (pathT v p), true) else (mk [], false)).1 = t at hs
  by_cases x0 : x = 0
  · obtain ⟨s, i3, g3, e4, h4⟩ := spoilt l hl i2 g2 c2 d2 t (by omega) k (by omega)
    rw [if_pos x0, e4, Option.bind_some]
    exact ⟨s, rfl, h4⟩
  · rw [if_neg x0]
    by_cases x1 : x = 1
    · obtain ⟨s, i3, g3, e4, h4⟩ := picked l hl i2 g2 c2 d2
      unfold wordsL at e4
      rw [if_pos x1, e4, Option.bind_some]
      exact ⟨s, rfl, by omega⟩
    · rw [if_neg x1]
      exact ⟨t, rfl, by omega⟩

theorem same_loop (l : List Int) (hl : l.length ≤ 24) (d : Nat) : ∀ (k i : Nat), l.length - i = d → i ≤ l.length → d < k → laws_sameInts.l0 k l l (i : Int) = some true := by
  induction d with
  | zero =>
    intro k i hd hi hk
    obtain ⟨k, rfl⟩ : ∃ m, k = m + 1 := ⟨k - 1, by omega⟩
    rw [laws_sameInts.l0, if_neg (by omega)]
  | succ d ih =>
    intro k i hd hi hk
    obtain ⟨k, rfl⟩ : ∃ m, k = m + 1 := ⟨k - 1, by omega⟩
    have c1 : (i : Int) < (l.length : Int) := by omega
    have c2 : (0 : Int) ≤ (i : Int) := by omega
    rw [laws_sameInts.l0, if_pos c1, if_pos c2, if_pos c1, if_pos rfl, w64 (n := (i : Int) + 1) (by omega) (by omega), show (i : Int) + 1 = ((i + 1 : Nat) : Int) by omega]
    exact ih k (i + 1) (by omega) (by omega) (by omega)
theorem same_points_loop (l : List S55) (hl : l.length ≤ 24) (d : Nat) : ∀ (k i : Nat), l.length - i = d → i ≤ l.length → d < k → laws_samePoints.l0 k l l (i : Int) = some true := by
  induction d with
  | zero =>
    intro k i hd hi hk
    obtain ⟨k, rfl⟩ : ∃ m, k = m + 1 := ⟨k - 1, by omega⟩
    rw [laws_samePoints.l0, if_neg (by omega)]
  | succ d ih =>
    intro k i hd hi hk
    obtain ⟨k, rfl⟩ : ∃ m, k = m + 1 := ⟨k - 1, by omega⟩
    have c1 : (i : Int) < (l.length : Int) := by omega
    have c2 : (0 : Int) ≤ (i : Int) := by omega
    rw [laws_samePoints.l0, if_pos c1, if_pos c2, if_pos c1, if_neg (by simp), w64 (n := (i : Int) + 1) (by omega) (by omega), show (i : Int) + 1 = ((i + 1 : Nat) : Int) by omega]
    exact ih k (i + 1) (by omega) (by omega) (by omega)
theorem same_path (v : List Int) (p : List S55) (hv : v.length ≤ 24) (hp : p.length ≤ 24) (k : Nat) (hk : 24 < k) : laws_samePath.f k v p v p = some true := by
  unfold laws_samePath.f laws_sameInts.f laws_samePoints.f
  rw [if_pos rfl, if_pos rfl]
  have h1 := same_loop v hv v.length k 0 (by omega) (by omega) (by omega)
  have h2 := same_points_loop p hp p.length k 0 (by omega) (by omega) (by omega)
  have z : ((0 : Nat) : Int) = 0 := rfl
  rw [z] at h1 h2
  rw [h1, Option.bind_some, if_pos rfl, h2, Option.bind_some]
theorem paths_tail (l : List Int) (hl : l.length ≤ 1048576) (k : Nat) (hk : 32000000 < k) : laws_FnPaths.j0 k l false = some true := by
  obtain ⟨k, rfl⟩ : ∃ m, k = m + 1 + 1 := ⟨k - 2, by omega⟩
  obtain ⟨t, e1, ht⟩ := draw_parse l (by omega) (k + 1) (by omega)
  obtain ⟨R, h1, h2, e2, e3, h3⟩ := parse_same t (by omega)
  have e4 := impl_text R.1 R.2.1 (k + 1) (by omega)
  have n4 := impl_need k 4
  have n9 := impl_need k 9
  rw [laws_FnPaths.j0, if_neg (by decide), e1, Option.bind_some, e3 _ (by omega), Option.bind_some, e2 _ (by omega), Option.bind_some, e4, Option.bind_some, if_pos (by simp), n4, n9]
  by_cases hr : R.2.2 = true
  · obtain ⟨b1, b2⟩ := h3 hr
    rw [if_pos hr, if_pos b1, if_pos (by rw [mk_toList, Lib.toList_data]; exact b2)]
    decide
  · rw [if_neg hr]
    decide
theorem FnPaths : laws_FnPaths.Pure := by
  intro l _ hl _
  obtain ⟨K, hK⟩ : ∃ K, K = 40000000 := ⟨_, rfl⟩
  refine ⟨K, ?_⟩
  unfold laws_FnPaths.f laws_big.f
  rw [Option.bind_some]
  by_cases hbig : decide ((l.length : Int) > 1048576) = true
  · rw [if_pos hbig]
  · rw [if_neg hbig]
    have hb : l.length ≤ 1048576 := by
      have := of_decide_eq_false (Bool.eq_false_iff.2 hbig)
      omega
    have htail := paths_tail l hb K (by omega)
    obtain ⟨h, e0⟩ := draw_new l (by omega) K (by omega)
    obtain ⟨v, p, i1, g1, e1, v1, p1, c1, d1⟩ := any_path l (by omega) 0 h (by omega) (by omega) K (by omega)
    have ed : spec_DrawPathText.f K l = some (v, p) := by
      unfold spec_DrawPathText.f
      rw [e0, Option.bind_some]
      simp only
      rw [e1, Option.bind_some]
    have e2 := impl_text v p K (by omega)
    have e3 := spec_path v p K (by omega)
    have e4 := impl_path v p K (by omega)
    rw [ed, Option.bind_some]
    simp only
    rw [e2, Option.bind_some]
    by_cases hp : pathB v p = true
    · have e5 := parse_back hp K (by omega)
      rw [if_pos hp]
      simp only
      rw [e5, Option.bind_some, e3, Option.bind_some, hp, e4, hp, Option.bind_some]
      simp only [bne_self_eq_false, Bool.false_eq_true, if_false, if_true]
      rw [same_path v p v1 p1 K (by omega), Option.bind_some]
      exact htail
    · obtain ⟨R, _, _, _, e5, _⟩ := parse_same (mk []) (by rw [mk_size]; simp)
      have hp : pathB v p = false := Bool.eq_false_iff.2 hp
      rw [if_neg (by rw [hp]; decide)]
      simp only
      rw [e5 K (by omega), Option.bind_some, e3, Option.bind_some, hp, e4, hp, Option.bind_some]
      simp only [bne_self_eq_false, Bool.false_eq_true, if_false]
      exact htail
end Go.Proofs.YtpmgfmalpijjbaaDoor.Pure
