/- The walks of FnPaths, part 8: what the print wrote, with some proofs of the session's own. -/
import Derived.Test.YtpmgfmalpijjbaaDoorName
import Derived.Test.YtpmgfmalpijjbaaDoorShort
import Derived.Test.YtpmgfmalpijjbaaDoorQFnPathsx0
import Derived.Test.YtpmgfmalpijjbaaDoorQFnPathsx2
namespace Go.Proofs.YtpmgfmalpijjbaaDoor.PFnPaths
open Go.RowKit Go.Proofs.YtpmgfmalpijjbaaDoor.Short Go.Proofs.YtpmgfmalpijjbaaDoorW.PrintWords Go.Proofs.YtpmgfmalpijjbaaDoorW.PrintLast Go.Proofs.YtpmgfmalpijjbaaDoorW.PrintMore
attribute [local go_sem] max2_int min2_int max_two min_two max_three min_three max_four min_four   -- for this text's walks alone
set_option linter.unusedVariables false
set_option linter.unusedSimpArgs false

/-! ### strings_Split: function 28 -/
def strings_Split.f (a0 : ByteArray) (a1 : ByteArray) : Option (List ByteArray) := if a0.size < 4294967281 then (if 1 ≤ a1.size then (some (Go.Lib.splitB a1 0 (Go.Lib.countB a0 a1) a0)) else (none)) else (none)
theorem strings_Split.calls (a0 : ByteArray) (a1 : ByteArray) (r : List ByteArray) (w : World) (hT_ : Tab.Is w) (h : strings_Split.f a0 a1 = some r) :
    Calls Tryd.prog 28 #[.string a0, .string a1] w fun e w' => ∃ v0_ : Value, e = .returned (v0_) ∧ Kd.R Kd.string 9 w' w.heap.size (fun _ => True) v0_ r ∧ Below w.heap.size w w' := by
 unfold strings_Split.f at h
 by_cases h0 : a0.size < 4294967281
 ·rw [if_pos h0] at h
  by_cases h1 : 1 ≤ a1.size
  ·rw [if_pos h1] at h
   obtain rfl := Option.some.inj h
   obtain ⟨m, hm⟩ := hT_.max
   refine (Tryd.strings_Split a0 a1 m w h0 hm h1).mono ?_
   rintro e w' ⟨rfl, rfl⟩
   have hl : (Go.Lib.splitB a1 0 (Go.Lib.countB a0 a1) a0).length = Go.Lib.countB a0 a1 + 1 := Go.Lib.splitB_all a1 h1 0 _ a0 rfl
   have hn : Go.Lib.countB a0 a1 ≤ a0.size := Go.Lib.countB_le a1 h1 a0.size a0 (Nat.le_refl _)
   have hown : (w.alloc (.cells ((Go.Lib.splitB a1 0 (Go.Lib.countB a0 a1) a0).map Value.string).toArray 9)).ownsRow w.heap.size 9 1 (.slice (some ⟨w.heap.size, 0, none⟩) (Go.Lib.countB a0 a1 + 1) (Go.Lib.countB a0 a1 + 1)) (Go.Lib.splitB a1 0 (Go.Lib.countB a0 a1) a0).length (encs Value.string (Go.Lib.splitB a1 0 (Go.Lib.countB a0 a1) a0)) := by
    refine ⟨by rw [encs_length, Nat.mul_one], .inr ⟨w.heap.size, Go.Lib.countB a0 a1 + 1, ((Go.Lib.splitB a1 0 (Go.Lib.countB a0 a1) a0).map Value.string).toArray, ?_, Nat.le_refl _, Array.getElem?_push_size, ?_, ?_, ?_, ?_⟩⟩
    ·rw [hl]
    ·omega
    ·simp only [maxLen]; omega
    ·simp [hl]
    ·rw [Nat.mul_one]
     exact List.take_of_length_le (by simp)
   exact ⟨_, rfl, Kd.R_of_own (h1 := fun _ => rfl) hown (fun _ _ => trivial), below_alloc (Below.refl _ _) _⟩
  ·rw [if_neg h1] at h
   cases h
 ·rw [if_neg h0] at h
  cases h

/-! ### strings_Index: function 66 -/
def strings_Index.f (a0 : ByteArray) (a1 : ByteArray) : Option (Int) := if a0.size < 4294967281 then (some (Go.Lib.index a0.data.toList a1.data.toList)) else (none)
theorem strings_Index.calls (a0 : ByteArray) (a1 : ByteArray) (r : Int) (w : World) (hT_ : Tab.Is w) (h : strings_Index.f a0 a1 = some r) :
    Calls Tryd.prog 66 #[.string a0, .string a1] w fun e w' => e = .returned (.int .i64 r) ∧ Below w.heap.size w w' := by
 unfold strings_Index.f at h
 by_cases h0 : a0.size < 4294967281
 ·rw [if_pos h0] at h
  obtain rfl := Option.some.inj h
  obtain ⟨m, hm⟩ := hT_.max
  refine (Tryd.strings_Index a0 a1 m w h0 hm).mono ?_
  rintro e w' ⟨rfl, rfl⟩
  exact ⟨rfl, Below.refl _ _⟩
 ·rw [if_neg h0] at h
  cases h

/-! ### strings_CutPrefix: function 79 -/
def strings_CutPrefix.f (a0 : ByteArray) (a1 : ByteArray) : Option (ByteArray × Bool) := some (⟨(Go.Lib.trimPrefix a0.data.toList a1.data.toList).toArray⟩, Go.Lib.hasPrefix a0.data.toList a1.data.toList)
theorem strings_CutPrefix.calls (a0 : ByteArray) (a1 : ByteArray) (r1 : ByteArray) (r2 : Bool) (w : World) (h : strings_CutPrefix.f a0 a1 = some (r1, r2)) :
    Calls Tryd.prog 79 #[.string a0, .string a1] w fun e w' => e = .returned (.tuple #[.string r1, .bool r2]) ∧ Below w.heap.size w w' := by
 unfold strings_CutPrefix.f at h
 obtain ⟨rfl, rfl⟩ : _ ∧ _ := by simpa only [Option.some.injEq, Prod.mk.injEq] using h
 refine (Tryd.strings_CutPrefix a0 a1 w).mono ?_
 rintro e w' ⟨rfl, rfl⟩
 exact ⟨rfl, Below.refl _ _⟩

/-! ### impl_ReadDecimal: function 80 -/
mutual
def impl_ReadDecimal.j0 : Nat → ByteArray → Bool → Option (Int × Bool)
  | 0, _, _ => none
  | k + 1, x0, x13 => if x13 = true then (some (0, false)) else (impl_ReadDecimal.l0 k x0 0 0)
def impl_ReadDecimal.l0 : Nat → ByteArray → Int → Int → Option (Int × Bool)
  | 0, _, _, _ => none
  | k + 1, x0, x4, x5 => if x5 < (x0.size : Int) then (if 0 ≤ x5 then (if (bt x0 x5) < 48 then (some (0, false)) else (if (bt x0 x5) > 57 then (some (0, false)) else (impl_ReadDecimal.l0 k x0 (wrap64 ((wrap64 (x4 * 10)) + (((bt x0 x5) - 48) % 256))) (wrap64 (x5 + 1))))) else (none)) else (if x4 > 1000000000 then (some (0, false)) else ((impl_Decimal.f x4).bind fun t204 => (if t204.toList = x0.toList then (some (x4, true)) else (some (0, false)))))
end
def impl_ReadDecimal.f (k : Nat) (a0 : ByteArray) : Option (Int × Bool) := if (a0.size : Int) = 0 then (impl_ReadDecimal.j0 k a0 true) else (impl_ReadDecimal.j0 k a0 (decide ((a0.size : Int) > 10)))
theorem impl_ReadDecimal.mono_l : ∀ k, (∀ y0 y1, LeO (impl_ReadDecimal.j0 k y0 y1) (impl_ReadDecimal.j0 (k + 1) y0 y1)) ∧ (∀ y0 y1 y2, LeO (impl_ReadDecimal.l0 k y0 y1 y2) (impl_ReadDecimal.l0 (k + 1) y0 y1 y2))
  | 0 => ⟨fun _ _ r h => by simp [impl_ReadDecimal.j0] at h, fun _ _ _ r h => by simp [impl_ReadDecimal.l0] at h⟩
  | k + 1 => by
    obtain ⟨ih0, ih1⟩ := impl_ReadDecimal.mono_l k
    refine ⟨?_, ?_⟩
    · intro y0 y1
      unfold impl_ReadDecimal.j0
      repeat' first
      | (with_reducible exact ih0 _ _)
      | (with_reducible exact ih1 _ _ _)
      | (with_reducible exact LeO.refl _)
      | (with_reducible exact LeO.none _)
      | (with_reducible refine LeO.ite ?_ ?_)
      | (with_reducible refine LeO.bind ?_ (fun _ => ?_))
      | exact ih0 _ _
      | exact ih1 _ _ _
      | exact LeO.none _
      | refine LeO.ite ?_ ?_
      | refine LeO.bind ?_ (fun _ => ?_)
    · intro y0 y1 y2
      unfold impl_ReadDecimal.l0
      repeat' first
      | (with_reducible exact ih0 _ _)
      | (with_reducible exact ih1 _ _ _)
      | (with_reducible exact LeO.refl _)
      | (with_reducible exact LeO.none _)
      | (with_reducible refine LeO.ite ?_ ?_)
      | (with_reducible refine LeO.bind ?_ (fun _ => ?_))
      | exact ih0 _ _
      | exact ih1 _ _ _
      | exact LeO.none _
      | refine LeO.ite ?_ ?_
      | refine LeO.bind ?_ (fun _ => ?_)
theorem impl_ReadDecimal.mono : ∀ a0 k, LeO (impl_ReadDecimal.f k a0) (impl_ReadDecimal.f (k + 1) a0) := by
  intro a0 k
  obtain ⟨ih0, ih1⟩ := impl_ReadDecimal.mono_l k
  unfold impl_ReadDecimal.f
  repeat' first
      | (with_reducible exact ih0 _ _)
      | (with_reducible exact ih1 _ _ _)
      | (with_reducible exact LeO.refl _)
      | (with_reducible exact LeO.none _)
      | (with_reducible refine LeO.ite ?_ ?_)
      | (with_reducible refine LeO.bind ?_ (fun _ => ?_))
      | exact ih0 _ _
      | exact ih1 _ _ _
      | exact LeO.none _
      | refine LeO.ite ?_ ?_
      | refine LeO.bind ?_ (fun _ => ?_)
set_option maxHeartbeats 8000000 in
set_option maxRecDepth 100000 in
theorem impl_ReadDecimal.calls (k : Nat) (a0 : ByteArray) (r1 : Int) (r2 : Bool) (w : World) (hT_ : Tab.Is w) (h : impl_ReadDecimal.f k a0 = some (r1, r2)) :
    Calls Tryd.prog 80 #[.string a0] w fun e w' => e = .returned (.tuple #[.int .i64 r1, .bool r2]) ∧ Below w.heap.size w w' := by
 have HTB_ := Aside0.mk hT_
 clear hT_
 have HB := Aside0.mk (Below.refl w.heap.size w)
 have H : (if (a0.size : Int) = 0 then (impl_ReadDecimal.j0 k a0 true) else (impl_ReadDecimal.j0 k a0 (decide ((a0.size : Int) > 10)))) = some (r1, r2) := h
 clear h
 have HC2 := Aside0.mk H
 clear H
 go_enter Tryd.func80, Tryd.ntmps80
 go_upto_region 1 with (fail)
 go_cut [13] (fun v13 wc => ∃ (kq : Nat) (x13_1 : Bool), v13 = .bool x13_1 ∧ Aside0 (impl_ReadDecimal.j0 kq a0 x13_1 = some (r1, r2)) ∧ Aside0 (kq ≤ k) ∧ Aside0 (Below w.heap.size w wc))
 case first =>
  have H := HC2.out
  clear HC2
  by_cases c3 : (a0.size : Int) = 0
  ·rw [if_pos c3] at H
   have c3b0 : ((a0.size : Int) == 0) = true := beq_iff_eq.mpr c3
   have c3b1 : ((a0.size : Int) != 0) = false := bne_eq_false_iff_eq.mpr c3
   clear c3
   (first | rw [c3b0] | (simp only [i64_w, i32_w]; rw [c3b0]) | skip)
   have H' := Aside0.mk H
   clear H
   go_wp2
   go_meet
   case rel => exact ⟨_, (true), (by first | rfl | (simp; done) | (simp [*]; done)), H', ⟨by first | omega | exact Nat.le_refl _⟩, ⟨bS⟩⟩
  ·rw [if_neg c3] at H
   have c3b0 : ((a0.size : Int) == 0) = false := beq_eq_false_iff_ne.mpr c3
   have c3b1 : ((a0.size : Int) != 0) = true := bne_iff_ne.mpr c3
   (first | rw [c3b0] | (simp only [i64_w, i32_w]; rw [c3b0]) | skip)
   have H' := Aside0.mk H
   clear H
   go_wp2
   go_meet
   case rel => exact ⟨_, (decide ((a0.size : Int) > 10)), (by first | rfl | (simp; done) | (simp [*]; done)), H', ⟨by first | omega | exact Nat.le_refl _⟩, ⟨bS⟩⟩
 case rest =>
  clear HC2
  try clear p2
  try clear c3
  try clear c3b0
  try clear c3b1
  obtain ⟨kq, x13_1, rfl, HA, HJ1, HB⟩ := hcut
  cases kq with
  | zero => exact absurd HA.out (by simp [impl_ReadDecimal.j0])
  | succ kj1 =>
   have H := HA.out
   clear HA
   simp only [impl_ReadDecimal.j0] at H
   by_cases c4 : x13_1 = true
   ·subst c4
    have H1 : (some (0, false)) = some (r1, r2) := by rw [if_pos rfl] at H; exact H
    clear H
    have H := H1
    clear H1
    simp only [Option.some.injEq, Prod.mk.injEq] at H
    obtain ⟨rfl, rfl⟩ := H
    go_wp2
    go_ret2
    exact ⟨by first | rfl | (simp [errW_none, errW_some] <;> rfl) | (simp [*, errW_none, errW_some] <;> rfl), by exact bS⟩
   ·replace c4 := Bool.eq_false_iff.mpr c4
    subst c4
    have H1 : (impl_ReadDecimal.l0 kj1 a0 0 0) = some (r1, r2) := by rw [if_neg (show ¬ (false = true) by decide)] at H; exact H
    clear H
    have H := H1
    clear H1
    have H' := Aside0.mk H
    clear H
    go_wp2
    go_loopg [4, 5] kj1 (fun kq v4 v5 w' => ∃ (x4_2 : Int) (x5_2 : Int), v4 = .int .i64 x4_2 ∧ v5 = .int .i64 x5_2 ∧ Aside0 (impl_ReadDecimal.l0 kq a0 x4_2 x5_2 = some (r1, r2)) ∧ Aside0 (kq ≤ kj1) ∧ Aside0 (Below w.heap.size w w'))
    case atStart => exact ⟨(0), (0), (by first | rfl | (simp; done) | (simp [*]; done)), (by first | rfl | (simp; done) | (simp [*]; done)), H', ⟨Nat.le_refl _⟩, ⟨bS⟩⟩
    case round =>
     clear H'
     try clear p2
     try clear c3
     try clear c3b0
     try clear c3b1
     try clear c4
     try clear p2
     obtain ⟨x4_2, x5_2, rfl, rfl, HA, HK2, HB⟩ := hrel
     cases gk with
     | zero => exact absurd HA.out (by simp [impl_ReadDecimal.l0])
     | succ k2 =>
      have H := HA.out
      clear HA
      simp only [impl_ReadDecimal.l0] at H
      by_cases c5 : x5_2 < (a0.size : Int)
      ·rw [if_pos c5] at H
       have c5b0 : decide (x5_2 < (a0.size : Int)) = true := decide_eq_true c5
       clear c5
       by_cases c6 : 0 ≤ x5_2
       ·rw [if_pos c6] at H
        have c6b0 : decide (0 ≤ x5_2) = true := decide_eq_true c6
        clear c6
        by_cases c8 : (bt a0 x5_2) < 48
        ·rw [if_pos c8] at H
         have c8b0 : decide ((bt a0 x5_2) < 48) = true := decide_eq_true c8
         clear c8
         simp only [Option.some.injEq, Prod.mk.injEq] at H
         obtain ⟨rfl, rfl⟩ := H
         have p7 : 0 ≤ (x5_2 : Int) := of_decide_eq_true as_
         have q7 : x5_2 < (a0.size : Int) := of_decide_eq_true as_
         have hx7 := bt_at a0 x5_2
         replace p7 := eq_true p7
         replace q7 := eq_true q7
         go_wp2
         go_ret2
         exact ⟨by first | rfl | (simp [errW_none, errW_some] <;> rfl) | (simp [*, errW_none, errW_some] <;> rfl), by exact bS⟩
        ·rw [if_neg c8] at H
         have c8b0 : decide ((bt a0 x5_2) < 48) = false := decide_eq_false c8
         clear c8
         by_cases c10 : (bt a0 x5_2) > 57
         ·rw [if_pos c10] at H
          have c10b0 : decide (57 < (bt a0 x5_2)) = true := decide_eq_true c10
          clear c10
          simp only [Option.some.injEq, Prod.mk.injEq] at H
          obtain ⟨rfl, rfl⟩ := H
          have p7 : 0 ≤ (x5_2 : Int) := of_decide_eq_true as_
          have q7 : x5_2 < (a0.size : Int) := of_decide_eq_true as_
          have hx7 := bt_at a0 x5_2
          replace p7 := eq_true p7
          replace q7 := eq_true q7
          have p9 : 0 ≤ (x5_2 : Int) := of_decide_eq_true as_
          have q9 : x5_2 < (a0.size : Int) := of_decide_eq_true as_
          have hx9 := bt_at a0 x5_2
          replace p9 := eq_true p9
          replace q9 := eq_true q9
          go_wp2
          go_ret2
          exact ⟨by first | rfl | (simp [errW_none, errW_some] <;> rfl) | (simp [*, errW_none, errW_some] <;> rfl), by exact bS⟩
         ·rw [if_neg c10] at H
          have c10b0 : decide (57 < (bt a0 x5_2)) = false := decide_eq_false c10
          clear c10
          have H' := Aside0.mk H
          clear H
          have p7 : 0 ≤ (x5_2 : Int) := of_decide_eq_true as_
          have q7 : x5_2 < (a0.size : Int) := of_decide_eq_true as_
          have hx7 := bt_at a0 x5_2
          replace p7 := eq_true p7
          replace q7 := eq_true q7
          have p9 : 0 ≤ (x5_2 : Int) := of_decide_eq_true as_
          have q9 : x5_2 < (a0.size : Int) := of_decide_eq_true as_
          have hx9 := bt_at a0 x5_2
          replace p9 := eq_true p9
          replace q9 := eq_true q9
          have p11 : 0 ≤ (x5_2 : Int) := of_decide_eq_true as_
          have q11 : x5_2 < (a0.size : Int) := of_decide_eq_true as_
          have hx11 := bt_at a0 x5_2
          replace p11 := eq_true p11
          replace q11 := eq_true q11
          go_wp2
          go_roundg k2
          case measure => have := HJ1.out; have := HK2.out; omega
          case rel => exact ⟨(wrap64 ((wrap64 (x4_2 * 10)) + (((bt a0 x5_2) - 48) % 256))), (wrap64 (x5_2 + 1)), (by first | rfl | (simp; done) | (simp [*]; done)), (by first | rfl | (simp; done) | (simp [*]; done)), H', ⟨by have := HJ1.out; have := HK2.out; omega⟩, ⟨bS⟩⟩
       ·rw [if_neg c6] at H
        exact absurd H (by simp)
      ·rw [if_neg c5] at H
       have c5b0 : decide (x5_2 < (a0.size : Int)) = false := decide_eq_false c5
       clear c5
       by_cases c12 : x4_2 > 1000000000
       ·rw [if_pos c12] at H
        have c12b0 : decide (1000000000 < x4_2) = true := decide_eq_true c12
        clear c12
        simp only [Option.some.injEq, Prod.mk.injEq] at H
        obtain ⟨rfl, rfl⟩ := H
        go_wp2
        go_ret2
        exact ⟨by first | rfl | (simp [errW_none, errW_some] <;> rfl) | (simp [*, errW_none, errW_some] <;> rfl), by exact bS⟩
       ·rw [if_neg c12] at H
        have c12b0 : decide (1000000000 < x4_2) = false := decide_eq_false c12
        clear c12
        replace H := Option.bind_eq_some_iff.mp H
        obtain ⟨t204, A130, H⟩ := H
        try dsimp only at H
        have A13 := Aside0.mk A130
        clear A130
        by_cases c14 : t204.toList = a0.toList
        ·rw [if_pos c14] at H
         have c14b0 : (t204.toList == a0.toList) = true := beq_iff_eq.mpr c14
         have c14b1 : (t204.toList != a0.toList) = false := bne_eq_false_iff_eq.mpr c14
         clear c14
         simp only [Option.some.injEq, Prod.mk.injEq] at H
         obtain ⟨rfl, rfl⟩ := H
         go_wp2_with (first | (go_at_call 36; (with_reducible refine (impl_Decimal.calls x4_2 t204 _ ?hT_ A13.out).mono ?_); (case hT_ => exact Tab.Is.below HTB_.out bS); rintro e w15 ⟨rfl, hb⟩; replace HB := Aside0.mk (below_step bS hb); (try clear hb)))
         go_ret2
         exact ⟨by first | rfl | (simp [errW_none, errW_some] <;> rfl) | (simp [*, errW_none, errW_some] <;> rfl), by exact bS⟩
        ·rw [if_neg c14] at H
         have c14b0 : (t204.toList == a0.toList) = false := beq_eq_false_iff_ne.mpr c14
         have c14b1 : (t204.toList != a0.toList) = true := bne_iff_ne.mpr c14
         simp only [Option.some.injEq, Prod.mk.injEq] at H
         obtain ⟨rfl, rfl⟩ := H
         go_wp2_with (first | (go_at_call 36; (with_reducible refine (impl_Decimal.calls x4_2 t204 _ ?hT_ A13.out).mono ?_); (case hT_ => exact Tab.Is.below HTB_.out bS); rintro e w16 ⟨rfl, hb⟩; replace HB := Aside0.mk (below_step bS hb); (try clear hb)))
         go_ret2
         exact ⟨by first | rfl | (simp [errW_none, errW_some] <;> rfl) | (simp [*, errW_none, errW_some] <;> rfl), by exact bS⟩

/-! ### impl_readSigned: function 67 -/
def impl_readSigned.f (k : Nat) (a0 : ByteArray) : Option (Int × Bool) := (strings_CutPrefix.f a0 (⟨#[45]⟩ : ByteArray)).bind fun bt205 => ((impl_ReadDecimal.f k bt205.1).bind fun bt207 => (if bt205.2 = true then (some (wrap64 (-bt207.1), bt207.2)) else (some (bt207.1, bt207.2))))
theorem impl_readSigned.mono : ∀ a0 k, LeO (impl_readSigned.f k a0) (impl_readSigned.f (k + 1) a0) := by
  intro a0 k
  unfold impl_readSigned.f
  repeat' first
      | (with_reducible exact impl_ReadDecimal.mono _ _)
      | (with_reducible exact LeO.refl _)
      | (with_reducible exact LeO.none _)
      | (with_reducible refine LeO.ite ?_ ?_)
      | (with_reducible refine LeO.bind ?_ (fun _ => ?_))
      | exact impl_ReadDecimal.mono _ _
      | exact LeO.none _
      | refine LeO.ite ?_ ?_
      | refine LeO.bind ?_ (fun _ => ?_)
set_option maxHeartbeats 8000000 in
set_option maxRecDepth 100000 in
theorem impl_readSigned.calls (k : Nat) (a0 : ByteArray) (r1 : Int) (r2 : Bool) (w : World) (hT_ : Tab.Is w) (h : impl_readSigned.f k a0 = some (r1, r2)) :
    Calls Tryd.prog 67 #[.string a0] w fun e w' => e = .returned (.tuple #[.int .i64 r1, .bool r2]) ∧ Below w.heap.size w w' := by
 have HTB_ := Aside0.mk hT_
 clear hT_
 have HB := Aside0.mk (Below.refl w.heap.size w)
 have H : ((strings_CutPrefix.f a0 (⟨#[45]⟩ : ByteArray)).bind fun bt205 => ((impl_ReadDecimal.f k bt205.1).bind fun bt207 => (if bt205.2 = true then (some (wrap64 (-bt207.1), bt207.2)) else (some (bt207.1, bt207.2))))) = some (r1, r2) := h
 clear h
 replace H := Option.bind_eq_some_iff.mp H
 obtain ⟨⟨t205, t206⟩, A20, H⟩ := H
 try dsimp only at H
 have A2 := Aside0.mk A20
 clear A20
 replace H := Option.bind_eq_some_iff.mp H
 obtain ⟨⟨t207, t208⟩, A30, H⟩ := H
 try dsimp only at H
 have A3 := Aside0.mk A30
 clear A30
 by_cases c4 : t206 = true
 ·subst c4
  have H1 : (some (wrap64 (-t207), t208)) = some (r1, r2) := by rw [if_pos rfl] at H; exact H
  clear H
  have H := H1
  clear H1
  simp only [Option.some.injEq, Prod.mk.injEq] at H
  obtain ⟨rfl, rfl⟩ := H
  go_enter Tryd.func67, Tryd.ntmps67
  go_wp2_with (first | ((with_reducible refine gate_callee (f := 79) rfl ?_); refine goesL_ (some 10) rfl rfl Tryd.func79 (by kernel_rfl) rfl #[.string a0, .string (⟨#[45]⟩ : ByteArray)] rfl lm_ ?_; (with_reducible refine (strings_CutPrefix.calls a0 (⟨#[45]⟩ : ByteArray) t205 true _ A2.out).mono ?_); rintro e w5 ⟨rfl, hb⟩; refine ⟨_, rfl, ?_⟩; replace HB := Aside0.mk (below_step bS hb); (try clear hb)) | ((with_reducible refine gate_callee (f := 80) rfl ?_); refine goesL_ (some 15) rfl rfl Tryd.func80 (by kernel_rfl) rfl #[.string t205] rfl lm_ ?_; (with_reducible refine (impl_ReadDecimal.calls k t205 t207 t208 _ ?hT_ A3.out).mono ?_); (case hT_ => exact Tab.Is.below HTB_.out bS); rintro e w6 ⟨rfl, hb⟩; refine ⟨_, rfl, ?_⟩; replace HB := Aside0.mk (below_step bS hb); (try clear hb)))
  go_ret2
  exact ⟨by first | rfl | (simp [errW_none, errW_some] <;> rfl) | (simp [*, errW_none, errW_some] <;> rfl), by exact bS⟩
 ·replace c4 := Bool.eq_false_iff.mpr c4
  subst c4
  have H1 : (some (t207, t208)) = some (r1, r2) := by rw [if_neg (show ¬ (false = true) by decide)] at H; exact H
  clear H
  have H := H1
  clear H1
  simp only [Option.some.injEq, Prod.mk.injEq] at H
  obtain ⟨rfl, rfl⟩ := H
  go_enter Tryd.func67, Tryd.ntmps67
  go_wp2_with (first | ((with_reducible refine gate_callee (f := 79) rfl ?_); refine goesL_ (some 10) rfl rfl Tryd.func79 (by kernel_rfl) rfl #[.string a0, .string (⟨#[45]⟩ : ByteArray)] rfl lm_ ?_; (with_reducible refine (strings_CutPrefix.calls a0 (⟨#[45]⟩ : ByteArray) t205 false _ A2.out).mono ?_); rintro e w7 ⟨rfl, hb⟩; refine ⟨_, rfl, ?_⟩; replace HB := Aside0.mk (below_step bS hb); (try clear hb)) | ((with_reducible refine gate_callee (f := 80) rfl ?_); refine goesL_ (some 15) rfl rfl Tryd.func80 (by kernel_rfl) rfl #[.string t205] rfl lm_ ?_; (with_reducible refine (impl_ReadDecimal.calls k t205 t207 t208 _ ?hT_ A3.out).mono ?_); (case hT_ => exact Tab.Is.below HTB_.out bS); rintro e w8 ⟨rfl, hb⟩; refine ⟨_, rfl, ?_⟩; replace HB := Aside0.mk (below_step bS hb); (try clear hb)))
  go_ret2
  exact ⟨by first | rfl | (simp [errW_none, errW_some] <;> rfl) | (simp [*, errW_none, errW_some] <;> rfl), by exact bS⟩

end Go.Proofs.YtpmgfmalpijjbaaDoor.PFnPaths
