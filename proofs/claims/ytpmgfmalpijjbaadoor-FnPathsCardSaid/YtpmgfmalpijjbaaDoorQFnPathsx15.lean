/- The walks of FnPaths, part 15: what the print wrote, with some proofs of the session's own. -/
import Derived.Test.YtpmgfmalpijjbaaDoorName
import Derived.Test.YtpmgfmalpijjbaaDoorShort
import Derived.Test.YtpmgfmalpijjbaaDoorQFnPathsx0
import Derived.Test.YtpmgfmalpijjbaaDoorQFnPathsx5
import Derived.Test.YtpmgfmalpijjbaaDoorQFnPathsx9
import Derived.Test.YtpmgfmalpijjbaaDoorQFnPathsx10
import Derived.Test.YtpmgfmalpijjbaaDoorQFnPathsx13
import Derived.Test.YtpmgfmalpijjbaaDoorQFnPathsx14
namespace Go.Proofs.YtpmgfmalpijjbaaDoor.PFnPaths
open Go.RowKit Go.Proofs.YtpmgfmalpijjbaaDoor.Short Go.Proofs.YtpmgfmalpijjbaaDoorW.PrintWords Go.Proofs.YtpmgfmalpijjbaaDoorW.PrintLast Go.Proofs.YtpmgfmalpijjbaaDoorW.PrintMore
attribute [local go_sem] max2_int min2_int max_two min_two max_three min_three max_four min_four   -- for this text's walks alone
set_option linter.unusedVariables false
set_option linter.unusedSimpArgs false

/-! ### spec_l02Spoilt: function 54 -/
def spec_l02Spoilt.j0 : Nat → ByteArray → Bool → List Int → Int → Int → Option (ByteArray × Int × Int)
  | 0, _, _, _, _, _ => none
  | k + 1, x1, x23, x1000, x1001, x1002 => if x23 = true then (if (x1.size : Int) > 0 then ((spec_l01Below.f x1000 x1001 x1002 (x1.size : Int)).bind fun bt447 => (if 0 ≤ bt447.1 then (if bt447.1 ≤ (x1.size : Int) then ((spec_l01Text.f k x1000 bt447.2.1 bt447.2.2 1).bind fun bt450 => (if (x1.extract 0 (bt447.1 : Int).toNat).size + bt450.1.size ≤ 9223372036854775807 then (if 0 ≤ (wrap64 (bt447.1 + 1)) then (if (wrap64 (bt447.1 + 1)) ≤ (x1.size : Int) then (if ((x1.extract 0 (bt447.1 : Int).toNat) ++ bt450.1).size + (x1.extract ((wrap64 (bt447.1 + 1)) : Int).toNat x1.size).size ≤ 9223372036854775807 then (some (((x1.extract 0 (bt447.1 : Int).toNat) ++ bt450.1) ++ (x1.extract ((wrap64 (bt447.1 + 1)) : Int).toNat x1.size), bt450.2.1, bt450.2.2)) else (none)) else (none)) else (none)) else (none))) else (none)) else (none))) else (some (x1, x1001, x1002))) else (some (x1, x1001, x1002))
def spec_l02Spoilt.f (k : Nat) (s0_0 : List Int) (s0_1 : Int) (s0_2 : Int) (a1 : ByteArray) : Option (ByteArray × Int × Int) := (spec_l01Below.f s0_0 s0_1 s0_2 12).bind fun bt438 => (if bt438.1 = 0 then ((spec_l01Text.f k s0_0 bt438.2.1 bt438.2.2 1).bind fun bt441 => (if a1.size + bt441.1.size ≤ 9223372036854775807 then (some (a1 ++ bt441.1, bt441.2.1, bt441.2.2)) else (none))) else (if bt438.1 = 1 then ((spec_l01Below.f s0_0 bt438.2.1 bt438.2.2 (wrap64 ((a1.size : Int) + 1))).bind fun bt444 => (if 0 ≤ bt444.1 then (if bt444.1 ≤ (a1.size : Int) then (some (a1.extract 0 (bt444.1 : Int).toNat, bt444.2.1, bt444.2.2)) else (none)) else (none))) else (if bt438.1 = 2 then (spec_l02Spoilt.j0 k a1 (bt438.1 == 2) s0_0 bt438.2.1 bt438.2.2) else (spec_l02Spoilt.j0 k a1 (bt438.1 == 3) s0_0 bt438.2.1 bt438.2.2))))
def spec_l02Spoilt.T10 : Bool × List (List Nat × List Nat) := (true, [([], []), ([], []), ([0, 1], [0, 1]), ([], []), ([3], [3]), ([2, 4], [2, 4]), ([], []), ([], []), ([7], [7]), ([6, 8], [6, 8]), ([5, 9], [5, 9]), ([10, 4, 0, 1, 2, 3, 4, 5, 6, 7, 8, 9, 10], [10])])
def spec_l02Spoilt.B10 : List Nat := [0, 0, 3, 0, 8, 31, 0, 0, 128, 448, 1023, 2047]
theorem spec_l02Spoilt.tab10 : rtab .any (opsOf Tryd.f54 10) = spec_l02Spoilt.T10 := by kernel_rfl
theorem spec_l02Spoilt.bits10 : waitsOk spec_l02Spoilt.T10.2 spec_l02Spoilt.B10 = true := by kernel_rfl
set_option maxHeartbeats 8000000 in
set_option maxRecDepth 100000 in
theorem spec_l02Spoilt.calls (k : Nat) (g : Nat) (s0_0 : List Int) (s0_1 : Int) (s0_2 : Int) (a1 : ByteArray) (r1 : ByteArray) (r2 : Int) (r3 : Int) (w0 w : World) (hI : IsS92 w0 w g s0_0 s0_1 s0_2) (hB : Below w0.heap.size w0 w) (h : spec_l02Spoilt.f k s0_0 s0_1 s0_2 a1 = some (r1, r2, r3)) :
    Calls Tryd.prog 54 #[.pointer (some ⟨g, 0, none⟩), .string a1] w fun e w' => e = .returned (.string r1) ∧ IsS92 w0 w' g s0_0 r2 r3 ∧ Below w0.heap.size w0 w' ∧ KeepBut w w' g none := by
 have HI0 := Aside0.mk hI
 have HK := Aside0.mk (KeepBut.refl w g none)
 have HL := Aside0.mk hB.size
 clear hI
 have HW0 := Aside0.mk hB.size
 have HB := Aside0.mk hB
 clear hB
 have H : ((spec_l01Below.f s0_0 s0_1 s0_2 12).bind fun bt438 => (if bt438.1 = 0 then ((spec_l01Text.f k s0_0 bt438.2.1 bt438.2.2 1).bind fun bt441 => (if a1.size + bt441.1.size ≤ 9223372036854775807 then (some (a1 ++ bt441.1, bt441.2.1, bt441.2.2)) else (none))) else (if bt438.1 = 1 then ((spec_l01Below.f s0_0 bt438.2.1 bt438.2.2 (wrap64 ((a1.size : Int) + 1))).bind fun bt444 => (if 0 ≤ bt444.1 then (if bt444.1 ≤ (a1.size : Int) then (some (a1.extract 0 (bt444.1 : Int).toNat, bt444.2.1, bt444.2.2)) else (none)) else (none))) else (if bt438.1 = 2 then (spec_l02Spoilt.j0 k a1 (bt438.1 == 2) s0_0 bt438.2.1 bt438.2.2) else (spec_l02Spoilt.j0 k a1 (bt438.1 == 3) s0_0 bt438.2.1 bt438.2.2))))) = some (r1, r2, r3) := h
 clear h
 replace H := Option.bind_eq_some_iff.mp H
 obtain ⟨⟨t438, t439, t440⟩, A30, H⟩ := H
 try dsimp only at H
 have A3 := Aside0.mk A30
 clear A30
 by_cases c4 : t438 = 0
 ·rw [if_pos c4] at H
  have c4b0 : (t438 == 0) = true := beq_iff_eq.mpr c4
  have c4b1 : (t438 != 0) = false := bne_eq_false_iff_eq.mpr c4
  clear c4
  replace H := Option.bind_eq_some_iff.mp H
  obtain ⟨⟨t441, t442, t443⟩, A50, H⟩ := H
  try dsimp only at H
  have A5 := Aside0.mk A50
  clear A50
  by_cases c6 : a1.size + t441.size ≤ 9223372036854775807
  ·rw [if_pos c6] at H
   have c6b0 := eq_true c6
   have c6b1 : decide (a1.size + t441.size ≤ 9223372036854775807) = true := decide_eq_true c6
   try have c6b2 : (9223372036854775807 < a1.size + t441.size) = False := eq_false (Nat.not_lt.2 c6)
   simp only [Option.some.injEq, Prod.mk.injEq] at H
   obtain ⟨rfl, rfl, rfl⟩ := H
   go_enter Tryd.func54, Tryd.ntmps54
   go_wp2_with (first | ((with_reducible refine gate_callee (f := 53) rfl ?_); refine goesL_ (some 7) rfl rfl Tryd.func53 (by kernel_rfl) rfl #[.pointer (some ⟨g, 0, none⟩), .int .i64 12] rfl lm_ ?_; (with_reducible refine (spec_l01Below.calls g s0_0 s0_1 s0_2 12 t438 t439 t440 w0 _ ?side1 ?side2 A3.out).mono ?_); (case side1 => exact iS); (case side2 => exact bI); rintro e w7 ⟨rfl, hi, hb, hk⟩; refine ⟨_, rfl, ?_⟩; replace HK := Aside0.mk (KeepBut.trans kS hk (.inl rfl)); replace HB := Aside0.mk (hb); replace HI0 := Aside0.mk (hi); (try clear hb hk hi)) | ((with_reducible refine gate_callee (f := 72) rfl ?_); refine goesL_ (some 12) rfl rfl Tryd.func72 (by kernel_rfl) rfl #[.pointer (some ⟨g, 0, none⟩), .int .i64 1] rfl lm_ ?_; (with_reducible refine (spec_l01Text.calls k g s0_0 t439 t440 1 t441 t442 t443 w0 _ ?side1 ?side2 A5.out).mono ?_); (case side1 => exact iS); (case side2 => exact bI); rintro e w8 ⟨rfl, hi, hb, hk⟩; refine ⟨_, rfl, ?_⟩; replace HK := Aside0.mk (KeepBut.trans kS hk (.inl rfl)); replace HB := Aside0.mk (hb); replace HI0 := Aside0.mk (hi); (try clear hb hk hi)))
   go_ret
   exact ⟨by first | rfl | (simp [errW_none, errW_some] <;> rfl) | (simp [*, errW_none, errW_some] <;> rfl), by exact iS, by exact bI, by exact kS⟩
  ·rw [if_neg c6] at H
   exact absurd H (by simp)
 ·rw [if_neg c4] at H
  have c4b0 : (t438 == 0) = false := beq_eq_false_iff_ne.mpr c4
  have c4b1 : (t438 != 0) = true := bne_iff_ne.mpr c4
  by_cases c9 : t438 = 1
  ·rw [if_pos c9] at H
   have c9b0 : (t438 == 1) = true := beq_iff_eq.mpr c9
   have c9b1 : (t438 != 1) = false := bne_eq_false_iff_eq.mpr c9
   clear c9
   replace H := Option.bind_eq_some_iff.mp H
   obtain ⟨⟨t444, t445, t446⟩, A100, H⟩ := H
   try dsimp only at H
   have A10 := Aside0.mk A100
   clear A100
   by_cases c11 : 0 ≤ t444
   ·rw [if_pos c11] at H
    have c11b0 := eq_true c11
    have c11b1 : decide (0 ≤ t444) = true := decide_eq_true c11
    clear c11
    by_cases c12 : t444 ≤ (a1.size : Int)
    ·rw [if_pos c12] at H
     have c12b0 := eq_true c12
     have c12b1 : decide (t444 ≤ (a1.size : Int)) = true := decide_eq_true c12
     clear c12
     simp only [Option.some.injEq, Prod.mk.injEq] at H
     obtain ⟨rfl, rfl, rfl⟩ := H
     go_enter Tryd.func54, Tryd.ntmps54
     go_wp2_with (first | ((with_reducible refine gate_callee (f := 53) rfl ?_); refine goesL_ (some 7) rfl rfl Tryd.func53 (by kernel_rfl) rfl #[.pointer (some ⟨g, 0, none⟩), .int .i64 12] rfl lm_ ?_; (with_reducible refine (spec_l01Below.calls g s0_0 s0_1 s0_2 12 t438 t439 t440 w0 _ ?side1 ?side2 A3.out).mono ?_); (case side1 => exact iS); (case side2 => exact bI); rintro e w13 ⟨rfl, hi, hb, hk⟩; refine ⟨_, rfl, ?_⟩; replace HK := Aside0.mk (KeepBut.trans kS hk (.inl rfl)); replace HB := Aside0.mk (hb); replace HI0 := Aside0.mk (hi); (try clear hb hk hi)) | ((with_reducible refine gate_callee (f := 53) rfl ?_); refine goesL_ (some 21) rfl rfl Tryd.func53 (by kernel_rfl) rfl #[.pointer (some ⟨g, 0, none⟩), .int .i64 (wrap64 ((a1.size : Int) + 1))] rfl lm_ ?_; (with_reducible refine (spec_l01Below.calls g s0_0 t439 t440 (wrap64 ((a1.size : Int) + 1)) t444 t445 t446 w0 _ ?side1 ?side2 A10.out).mono ?_); (case side1 => exact iS); (case side2 => exact bI); rintro e w14 ⟨rfl, hi, hb, hk⟩; refine ⟨_, rfl, ?_⟩; replace HK := Aside0.mk (KeepBut.trans kS hk (.inl rfl)); replace HB := Aside0.mk (hb); replace HI0 := Aside0.mk (hi); (try clear hb hk hi)))
     go_ret
     exact ⟨by first | rfl | (simp [errW_none, errW_some] <;> rfl) | (simp [*, errW_none, errW_some] <;> rfl), by exact iS, by exact bI, by exact kS⟩
    ·rw [if_neg c12] at H
     exact absurd H (by simp)
   ·rw [if_neg c11] at H
    exact absurd H (by simp)
  ·rw [if_neg c9] at H
   have c9b0 : (t438 == 1) = false := beq_eq_false_iff_ne.mpr c9
   have c9b1 : (t438 != 1) = true := bne_iff_ne.mpr c9
   have HC15 := Aside0.mk H
   clear H
   go_enter Tryd.func54, Tryd.ntmps54
   go_upto_if 23 with (first | ((with_reducible refine gate_callee (f := 53) rfl ?_); refine goesL_ (some 7) rfl rfl Tryd.func53 (by kernel_rfl) rfl #[.pointer (some ⟨g, 0, none⟩), .int .i64 12] rfl lm_ ?_; (with_reducible refine (spec_l01Below.calls g s0_0 s0_1 s0_2 12 t438 t439 t440 w0 _ ?side1 ?side2 A3.out).mono ?_); (case side1 => exact iS); (case side2 => exact bI); rintro e w16 ⟨rfl, hi, hb, hk⟩; refine ⟨_, rfl, ?_⟩; replace HK := Aside0.mk (KeepBut.trans kS hk (.inl rfl)); replace HB := Aside0.mk (hb); replace HI0 := Aside0.mk (hi); (try clear hb hk hi)))
   (try simp only [PQ])
   go_cut [23] (fun v23 wc => ∃ (kq : Nat) (x23_14 : Bool), v23 = .bool x23_14 ∧ Aside0 (spec_l02Spoilt.j0 kq a1 x23_14 s0_0 t439 t440 = some (r1, r2, r3)) ∧ Aside0 (kq ≤ k) ∧ Aside0 (IsS92 w0 wc g s0_0 t439 t440) ∧ Aside0 (KeepBut w wc g none) ∧ Aside0 (Below w0.heap.size w0 wc))
   case first =>
    have H := HC15.out
    clear HC15
    by_cases c17 : t438 = 2
    ·rw [if_pos c17] at H
     have c17b0 : (t438 == 2) = true := beq_iff_eq.mpr c17
     have c17b1 : (t438 != 2) = false := bne_eq_false_iff_eq.mpr c17
     clear c17
     (first | rw [c17b0] | (simp only [i64_w, i32_w]; rw [c17b0]) | skip)
     have H' := Aside0.mk H
     clear H
     go_wp2
     go_meet
     case rel => exact ⟨_, ((t438 == 2)), (by first | rfl | (simp; done) | (simp [*]; done)), H', ⟨by first | omega | exact Nat.le_refl _⟩, ⟨iS⟩, ⟨kS⟩, ⟨bI⟩⟩
    ·rw [if_neg c17] at H
     have c17b0 : (t438 == 2) = false := beq_eq_false_iff_ne.mpr c17
     have c17b1 : (t438 != 2) = true := bne_iff_ne.mpr c17
     (first | rw [c17b0] | (simp only [i64_w, i32_w]; rw [c17b0]) | skip)
     have H' := Aside0.mk H
     clear H
     go_wp2
     go_meet
     case rel => exact ⟨_, ((t438 == 3)), (by first | rfl | (simp; done) | (simp [*]; done)), H', ⟨by first | omega | exact Nat.le_refl _⟩, ⟨iS⟩, ⟨kS⟩, ⟨bI⟩⟩
   case rest =>
    clear HC15
    try clear c1
    try clear p2
    try clear c4
    try clear c4b0
    try clear c4b1
    try clear c5
    try clear c6
    try clear c6b0
    try clear c6b1
    try clear c6b2
    try clear p6
    try clear c7
    try clear c9
    try clear c9b0
    try clear c9b1
    try clear c11
    try clear c11b0
    try clear c11b1
    try clear c12
    try clear c12b0
    try clear c12b1
    try clear c17
    try clear c17b0
    try clear c17b1
    obtain ⟨kq, x23_14, rfl, HA, HJ14, HI0, HK, HB⟩ := hcut
    cases kq with
    | zero => exact absurd HA.out (by simp [spec_l02Spoilt.j0])
    | succ kj14 =>
     have H := HA.out
     clear HA
     simp only [spec_l02Spoilt.j0] at H
     by_cases c18 : x23_14 = true
     ·subst c18
      have H1 : (if (a1.size : Int) > 0 then ((spec_l01Below.f s0_0 t439 t440 (a1.size : Int)).bind fun bt447 => (if 0 ≤ bt447.1 then (if bt447.1 ≤ (a1.size : Int) then ((spec_l01Text.f kj14 s0_0 bt447.2.1 bt447.2.2 1).bind fun bt450 => (if (a1.extract 0 (bt447.1 : Int).toNat).size + bt450.1.size ≤ 9223372036854775807 then (if 0 ≤ (wrap64 (bt447.1 + 1)) then (if (wrap64 (bt447.1 + 1)) ≤ (a1.size : Int) then (if ((a1.extract 0 (bt447.1 : Int).toNat) ++ bt450.1).size + (a1.extract ((wrap64 (bt447.1 + 1)) : Int).toNat a1.size).size ≤ 9223372036854775807 then (some (((a1.extract 0 (bt447.1 : Int).toNat) ++ bt450.1) ++ (a1.extract ((wrap64 (bt447.1 + 1)) : Int).toNat a1.size), bt450.2.1, bt450.2.2)) else (none)) else (none)) else (none)) else (none))) else (none)) else (none))) else (some (a1, t439, t440))) = some (r1, r2, r3) := by rw [if_pos rfl] at H; exact H
      clear H
      have H := H1
      clear H1
      by_cases c19 : (a1.size : Int) > 0
      ·rw [if_pos c19] at H
       have c19b0 : decide (0 < (a1.size : Int)) = true := decide_eq_true c19
       have c19b1 : decide (0 < a1.size) = true := decide_eq_true (by omega)
       clear c19
       replace H := Option.bind_eq_some_iff.mp H
       obtain ⟨⟨t447, t448, t449⟩, A200, H⟩ := H
       try dsimp only at H
       have A20 := Aside0.mk A200
       clear A200
       by_cases c21 : 0 ≤ t447
       ·rw [if_pos c21] at H
        have c21b0 := eq_true c21
        have c21b1 : decide (0 ≤ t447) = true := decide_eq_true c21
        clear c21
        by_cases c22 : t447 ≤ (a1.size : Int)
        ·rw [if_pos c22] at H
         have c22b0 := eq_true c22
         have c22b1 : decide (t447 ≤ (a1.size : Int)) = true := decide_eq_true c22
         clear c22
         replace H := Option.bind_eq_some_iff.mp H
         obtain ⟨⟨t450, t451, t452⟩, A230, H⟩ := H
         try dsimp only at H
         have A23 := Aside0.mk A230
         clear A230
         by_cases c24 : (a1.extract 0 (t447 : Int).toNat).size + t450.size ≤ 9223372036854775807
         ·rw [if_pos c24] at H
          have c24b0 := eq_true c24
          have c24b1 : decide ((a1.extract 0 (t447 : Int).toNat).size + t450.size ≤ 9223372036854775807) = true := decide_eq_true c24
          try have c24b2 : (9223372036854775807 < (a1.extract 0 (t447 : Int).toNat).size + t450.size) = False := eq_false (Nat.not_lt.2 c24)
          have hx_ : (a1.extract 0 t447.toNat).size = t447.toNat := by (have h1_ := of_eq_true c22b0; rw [ByteArray.size_extract]; omega)
          have c24b3 : (9223372036854775807 < t447.toNat + t450.size) = False := by (have h_ := c24b2; rw [hx_] at h_; exact h_)
          obtain ⟨ji25, hji25⟩ : ∃ j_ : Int, (wrap64 (t447 + 1)) = j_ := ⟨_, rfl⟩
          replace H : (if 0 ≤ (ji25) then (if (ji25) ≤ (a1.size : Int) then (if ((a1.extract 0 (t447 : Int).toNat) ++ t450).size + (a1.extract ((ji25) : Int).toNat a1.size).size ≤ 9223372036854775807 then (some (((a1.extract 0 (t447 : Int).toNat) ++ t450) ++ (a1.extract ((ji25) : Int).toNat a1.size), t451, t452)) else (none)) else (none)) else (none)) = some (r1, r2, r3) := by first | (rw [hji25] at H; exact H) | (simp only [hji25] at H ⊢; exact H)
          (try rw [hji25] at A20)
          (try rw [hji25] at A23)
          have hji25w : (IntKind.i64.wrap (t447 + 1)) = ji25 := (i64_w _).trans hji25
          by_cases c26 : 0 ≤ (ji25)
          ·rw [if_pos c26] at H
           have c26b0 := eq_true c26
           have c26b1 : decide (0 ≤ (ji25)) = true := decide_eq_true c26
           clear c26
           by_cases c27 : (ji25) ≤ (a1.size : Int)
           ·rw [if_pos c27] at H
            have c27b0 := eq_true c27
            have c27b1 : decide ((ji25) ≤ (a1.size : Int)) = true := decide_eq_true c27
            clear c27
            by_cases c28 : ((a1.extract 0 (t447 : Int).toNat) ++ t450).size + (a1.extract ((ji25) : Int).toNat a1.size).size ≤ 9223372036854775807
            ·rw [if_pos c28] at H
             have c28b0 := eq_true c28
             have c28b1 : decide (((a1.extract 0 (t447 : Int).toNat) ++ t450).size + (a1.extract ((ji25) : Int).toNat a1.size).size ≤ 9223372036854775807) = true := decide_eq_true c28
             try have c28b2 : (9223372036854775807 < ((a1.extract 0 (t447 : Int).toNat) ++ t450).size + (a1.extract ((ji25) : Int).toNat a1.size).size) = False := eq_false (Nat.not_lt.2 c28)
             have hy_ : (a1.extract ji25.toNat a1.size).size = a1.size - ji25.toNat := by (rw [ByteArray.size_extract]; omega)
             have c28b3 : (9223372036854775807 < t447.toNat + t450.size + (a1.size - ji25.toNat)) = False := by (have h_ := c28b2; rw [ByteArray.size_append, hx_, hy_] at h_; exact h_)
             simp only [Option.some.injEq, Prod.mk.injEq] at H
             obtain ⟨rfl, rfl, rfl⟩ := H
             try go_wp2_with (first | ((with_reducible refine gate_callee (f := 53) rfl ?_); refine goesL_ (some 32) rfl rfl Tryd.func53 (by kernel_rfl) rfl #[.pointer (some ⟨g, 0, none⟩), .int .i64 (a1.size : Int)] rfl lm_ ?_; (with_reducible refine (spec_l01Below.calls g s0_0 t439 t440 (a1.size : Int) t447 t448 t449 w0 _ ?side1 ?side2 A20.out).mono ?_); (case side1 => exact iS); (case side2 => exact bI); rintro e w29 ⟨rfl, hi, hb, hk⟩; refine ⟨_, rfl, ?_⟩; replace HK := Aside0.mk (KeepBut.trans kS hk (.inl rfl)); replace HB := Aside0.mk (hb); replace HI0 := Aside0.mk (hi); (try clear hb hk hi)))
             replace HI0 := Aside0.mk (IsS92.drew HI0.out)
             replace HK := Aside0.mk (keep_drew HK.out)
             replace HB := Aside0.mk (below_drew1 HB.out)
             refine start_ (n := 12) (S := fun w' => True) (ds := []) #[F,F,F,F,F,F,F,F,F,F,F,F] (by kernel_rfl) rfl rfl trivial (fun hHeld => ?_); refine with_tabW spec_l02Spoilt.tab10 spec_l02Spoilt.bits10 (fun HT_ HW_ => ?_)
             generalize w29.drew = w30 at HI0 HK HB hHeld ⊢
             refine pure_ (i := 0) (N := some 33) (v := ?_) (a' := ?_) #[T,F,F,F,F,F,F,F,F,F,F,F] rfl rfl (any_of HT_.out (by kernel_rfl)) (fun _ _ _ h => h) (Or.inl ⟨by rfl, ?_⟩) ?_ ?_; rotate_left
             ·intro w'; go_simp; with_reducible rfl
             rotate_left
             ·simp only [PS]; rfl
             refine pure_ (i := 1) (N := some 34) (v := ?_) (a' := ?_) #[T,T,F,F,F,F,F,F,F,F,F,F] rfl rfl (any_of HT_.out (by kernel_rfl)) (fun _ _ _ h => h) (Or.inl ⟨by rfl, ?_⟩) ?_ ?_; rotate_left
             ·intro w'; go_simp; with_reducible rfl
             rotate_left
             ·simp only [PS]; rfl
             refine pure_ (i := 2) (N := some 35) (v := ?_) (a' := ?_) #[T,T,T,F,F,F,F,F,F,F,F,F] rfl rfl (any_of HT_.out (by kernel_rfl)) (fun _ _ _ h => h) (Or.inl ⟨by rfl, ?_⟩) ?_ ?_; rotate_left
             ·intro w'; go_simp; with_reducible rfl
             rotate_left
             ·simp only [PS]; rfl
             refine pure_ (i := 3) (N := some 36) (v := ?_) (a' := ?_) #[T,T,T,T,F,F,F,F,F,F,F,F] rfl rfl (any_of HT_.out (by kernel_rfl)) (fun _ _ _ h => h) (Or.inl ⟨by rfl, ?_⟩) ?_ ?_; rotate_left
             ·intro w'; go_simp; with_reducible rfl
             rotate_left
             ·simp only [PS]; rfl
             refine pure_ (i := 6) (N := some 39) (v := ?_) (a' := ?_) #[T,T,T,T,F,F,T,F,F,F,F,F] rfl rfl (any_of HT_.out (by kernel_rfl)) (fun _ _ _ h => h) (Or.inl ⟨by rfl, ?_⟩) ?_ ?_; rotate_left
             ·intro w'; go_simp; with_reducible rfl
             rotate_left
             ·simp only [PS]; rfl
             refine pure_ (i := 7) (N := some 40) (v := ?_) (a' := ?_) #[T,T,T,T,F,F,T,T,F,F,F,F] rfl rfl (any_of HT_.out (by kernel_rfl)) (fun _ _ _ h => h) (Or.inl ⟨by rfl, ?_⟩) ?_ ?_; rotate_left
             ·intro w'; go_simp; with_reducible rfl
             rotate_left
             ·simp only [PS]; rfl
             refine pure_ (i := 8) (N := some 41) (v := ?_) (a' := ?_) #[T,T,T,T,F,F,T,T,T,F,F,F] rfl rfl (any_of HT_.out (by kernel_rfl)) (fun _ _ _ h => h) (Or.inl ⟨by rfl, ?_⟩) ?_ ?_; rotate_left
             ·intro w'; go_simp; with_reducible rfl
             rotate_left
             ·simp only [PS]; rfl
             refine pure_ (i := 9) (N := some 42) (v := ?_) (a' := ?_) #[T,T,T,T,F,F,T,T,T,T,F,F] rfl rfl (any_of HT_.out (by kernel_rfl)) (fun _ _ _ h => h) (Or.inl ⟨by rfl, ?_⟩) ?_ ?_; rotate_left
             ·intro w'; go_simp; with_reducible rfl
             rotate_left
             ·simp only [PS]; rfl
             refine one_ (i := 4) (N := some 37) #[T,T,T,T,T,F,T,T,T,T,F,F] rfl rfl (one_of HT_.out (by kernel_rfl)) (by decide) (fun K hK => ?_)
             refine goes_ Tryd.func72 (by kernel_rfl) rfl #[.pointer (some ⟨g, 0, none⟩), .int .i64 1] (by rfl) rfl rfl lm_ ?_
             with_reducible refine (spec_l01Text.calls kj14 g s0_0 t448 t449 1 t450 t451 t452 w0 _ ?side1 ?side2 A23.out).mono ?_
             (case side1 => exact iS)
             (case side2 => exact bI)
             rintro e w31 ⟨rfl, hi, hb, hk⟩
             refine ⟨_, rfl, ?_⟩
             replace HK := Aside0.mk (KeepBut.trans kS hk (.inl rfl))
             replace HB := Aside0.mk (hb)
             replace HI0 := Aside0.mk (hi)
             (try clear hb); (try clear hb2); (try clear hk); (try clear hi)
             refine hK.out _ _ trivial (fun hHeld => ?_)
             clear hK K
             refine norm_ (a' := ?_) ?_ ?_; rotate_left
             ·show Act.put _ (some 37) _ = _
              simp only [PS]
              rfl
             refine pure_ (i := 5) (N := some 38) (v := ?_) (a' := ?_) #[T,T,T,T,T,T,T,T,T,T,F,F] rfl rfl (any_of HT_.out (by kernel_rfl)) (fun _ _ _ h => h) (Or.inl ⟨by rfl, ?_⟩) ?_ ?_; rotate_left
             ·intro w'; go_simp; with_reducible rfl
             rotate_left
             ·simp only [PS]; rfl
             refine pure_ (i := 10) (N := some 43) (v := ?_) (a' := ?_) #[T,T,T,T,T,T,T,T,T,T,T,F] rfl rfl (any_of HT_.out (by kernel_rfl)) (fun _ _ _ h => h) (Or.inl ⟨by rfl, ?_⟩) ?_ ?_; rotate_left
             ·intro w'; go_simp; with_reducible rfl
             rotate_left
             ·simp only [PS]; rfl
             refine pure_ (i := 11) (N := some 4) (v := ?_) (a' := ?_) #[T,T,T,T,T,T,T,T,T,T,T,T] rfl rfl (any_of HT_.out (by kernel_rfl)) (fun _ _ _ h => h) (Or.inl ⟨by rfl, ?_⟩) ?_ ?_; rotate_left
             ·intro w'; go_simp; with_reducible rfl
             rotate_left
             ·simp only [PS]; rfl
             refine done_ (done_of HT_.out (by kernel_rfl)) ?_
             try go_wp2
             go_ret
             exact ⟨by first | rfl | (simp [errW_none, errW_some] <;> rfl) | (simp only [← hji25]; first | rfl | (simp [errW_none, errW_some] <;> rfl)) | (simp [*, errW_none, errW_some] <;> rfl), by exact iS, by exact bI, by exact kS⟩
            ·rw [if_neg c28] at H
             exact absurd H (by simp)
           ·rw [if_neg c27] at H
            exact absurd H (by simp)
          ·rw [if_neg c26] at H
           exact absurd H (by simp)
         ·rw [if_neg c24] at H
          exact absurd H (by simp)
        ·rw [if_neg c22] at H
         exact absurd H (by simp)
       ·rw [if_neg c21] at H
        exact absurd H (by simp)
      ·rw [if_neg c19] at H
       have c19b0 : decide (0 < (a1.size : Int)) = false := decide_eq_false c19
       have c19b1 : decide (0 < a1.size) = false := decide_eq_false (by omega)
       clear c19
       simp only [Option.some.injEq, Prod.mk.injEq] at H
       obtain ⟨rfl, rfl, rfl⟩ := H
       go_wp2
       go_ret
       exact ⟨by first | rfl | (simp [errW_none, errW_some] <;> rfl) | (simp [*, errW_none, errW_some] <;> rfl), by exact iS, by exact bI, by exact kS⟩
     ·replace c18 := Bool.eq_false_iff.mpr c18
      subst c18
      have H1 : (some (a1, t439, t440)) = some (r1, r2, r3) := by rw [if_neg (show ¬ (false = true) by decide)] at H; exact H
      clear H
      have H := H1
      clear H1
      simp only [Option.some.injEq, Prod.mk.injEq] at H
      obtain ⟨rfl, rfl, rfl⟩ := H
      go_wp2
      go_ret
      exact ⟨by first | rfl | (simp [errW_none, errW_some] <;> rfl) | (simp [*, errW_none, errW_some] <;> rfl), by exact iS, by exact bI, by exact kS⟩

/-! ### spec_l01Pick: function 55 -/
def spec_l01Pick.f (s0_0 : List Int) (s0_1 : Int) (s0_2 : Int) (l1 : List ByteArray) : Option (ByteArray × Int × Int) := (spec_l01Below.f s0_0 s0_1 s0_2 (l1.length : Int)).bind fun bt453 => (if 0 ≤ bt453.1 then (if bt453.1 < (l1.length : Int) then (some (rdOf ByteArray.empty l1 bt453.1, bt453.2.1, bt453.2.2)) else (none)) else (none))
set_option maxHeartbeats 8000000 in
set_option maxRecDepth 100000 in
theorem spec_l01Pick.calls (g : Nat) (s0_0 : List Int) (s0_1 : Int) (s0_2 : Int) (A1 : Option Addr) (c1 : Nat) (l1 : List ByteArray) (r1 : ByteArray) (r2 : Int) (r3 : Int) (w0 w : World) (hI : IsS92 w0 w g s0_0 s0_1 s0_2) (hB : Below w0.heap.size w0 w) (hr1 : Kd.C Kd.string w A1 l1.length l1) (hc1 : l1.length ≤ c1) (hf1 : ∀ ad, A1 = some ad → 0 < l1.length → ad.block ≠ g) (h : spec_l01Pick.f s0_0 s0_1 s0_2 l1 = some (r1, r2, r3)) :
    Calls Tryd.prog 55 #[.pointer (some ⟨g, 0, none⟩), .slice A1 l1.length c1] w fun e w' => e = .returned (.string r1) ∧ IsS92 w0 w' g s0_0 r2 r3 ∧ Below w0.heap.size w0 w' ∧ KeepBut w w' g none := by
 have HR1 := Aside0.mk hr1
 have HC1 := Aside0.mk hc1
 clear hr1 hc1
 have HI0 := Aside0.mk hI
 have HK := Aside0.mk (KeepBut.refl w g none)
 have HL := Aside0.mk hB.size
 clear hI
 have HW0 := Aside0.mk hB.size
 have HB := Aside0.mk hB
 clear hB
 have H : ((spec_l01Below.f s0_0 s0_1 s0_2 (l1.length : Int)).bind fun bt453 => (if 0 ≤ bt453.1 then (if bt453.1 < (l1.length : Int) then (some (rdOf ByteArray.empty l1 bt453.1, bt453.2.1, bt453.2.2)) else (none)) else (none))) = some (r1, r2, r3) := h
 clear h
 replace H := Option.bind_eq_some_iff.mp H
 obtain ⟨⟨t453, t454, t455⟩, A30, H⟩ := H
 try dsimp only at H
 have A3 := Aside0.mk A30
 clear A30
 by_cases c4 : 0 ≤ t453
 ·rw [if_pos c4] at H
  have c4b0 : decide (0 ≤ t453) = true := decide_eq_true c4
  clear c4
  by_cases c5 : t453 < (l1.length : Int)
  ·rw [if_pos c5] at H
   have c5b0 : decide (t453 < (l1.length : Int)) = true := decide_eq_true c5
   clear c5
   simp only [Option.some.injEq, Prod.mk.injEq] at H
   obtain ⟨rfl, rfl, rfl⟩ := H
   go_enter Tryd.func55, Tryd.ntmps55
   go_wp2_with (first | ((with_reducible refine gate_callee (f := 53) rfl ?_); refine goesL_ (some 9) rfl rfl Tryd.func53 (by kernel_rfl) rfl #[.pointer (some ⟨g, 0, none⟩), .int .i64 (l1.length : Int)] rfl lm_ ?_; (with_reducible refine (spec_l01Below.calls g s0_0 s0_1 s0_2 (l1.length : Int) t453 t454 t455 w0 _ ?side1 ?side2 A3.out).mono ?_); (case side1 => exact iS); (case side2 => exact bI); rintro e w6 ⟨rfl, hi, hb, hk⟩; refine ⟨_, rfl, ?_⟩; replace HK := Aside0.mk (KeepBut.trans kS hk (.inl rfl)); replace HB := Aside0.mk (hb); replace HI0 := Aside0.mk (hi); (try clear hb hk hi); have p456 : 0 ≤ (t453 : Int) := of_decide_eq_true as_; have q456 : t453 < (l1.length : Int) := of_decide_eq_true as_; obtain ⟨ad456, e456, hx456_0⟩ := Kd.at_string HR1.out t453 p456 q456; cases e456; replace hx456_0 := keep_cell HK.out hx456_0 (by first | (rw [add_block]; exact hf1 _ rfl (by omega)) | exact hf1 _ rfl (by omega) | exact hf1 ad456 rfl (by omega)); replace p456 := eq_true p456; replace q456 := eq_true q456))
   go_ret
   exact ⟨by first | rfl | (simp [errW_none, errW_some] <;> rfl) | (simp [*, errW_none, errW_some] <;> rfl), by exact iS, by exact bI, by exact kS⟩
  ·rw [if_neg c5] at H
   exact absurd H (by simp)
 ·rw [if_neg c4] at H
  exact absurd H (by simp)

/-! ### spec_DrawParsePath: function 26 -/
def spec_DrawParsePath.f (k : Nat) (l0 : List Int) : Option (ByteArray) := (spec_l01New.f k l0).bind fun bt457 => ((spec_l06Any.f k bt457.1 bt457.2.1 bt457.2.2).bind fun bt461 => ((spec_PathText.f k bt461.1 bt461.2.1).bind fun bt469 => ((spec_l01Below.f bt457.1 bt461.2.2.1 bt461.2.2.2 6).bind fun bt471 => (if bt471.1 = 0 then ((spec_l02Spoilt.f k bt457.1 bt471.2.1 bt471.2.2 bt469.1).bind fun bt474 => (some bt474.1)) else (if bt471.1 = 1 then ((spec_l01Pick.f bt457.1 bt471.2.1 bt471.2.2 (([(⟨#[]⟩ : ByteArray), (⟨#[77]⟩ : ByteArray), (⟨#[77, 32, 49]⟩ : ByteArray), (⟨#[77, 32, 49, 32, 50, 32]⟩ : ByteArray), (⟨#[76, 32, 49, 32, 50]⟩ : ByteArray), (⟨#[77, 32, 49, 32, 50, 32, 90, 32, 90]⟩ : ByteArray), (⟨#[77, 32, 45, 48, 32, 49]⟩ : ByteArray), (⟨#[77, 32, 49, 32, 32, 50]⟩ : ByteArray), (⟨#[77, 32, 48, 49, 32, 50]⟩ : ByteArray), (⟨#[77, 32, 49, 32, 50, 32, 76, 32, 51, 32, 45, 52, 32, 90]⟩ : ByteArray)] : List ByteArray))).bind fun bt480 => (some bt480.1)) else (some bt469.1))))))
set_option maxHeartbeats 8000000 in
set_option maxRecDepth 100000 in
theorem spec_DrawParsePath.calls (k : Nat) (A0 : Option Addr) (c0 : Nat) (l0 : List Int) (r : ByteArray) (w : World) (hr0 : Kd.C (Kd.int .u8) w A0 l0.length l0) (hc0 : l0.length ≤ c0) (h : spec_DrawParsePath.f k l0 = some r) :
    Calls Tryd.prog 26 #[.slice A0 l0.length c0] w fun e w' => e = .returned (.string r) ∧ Below w.heap.size w w' := by
 have HR0 := Aside0.mk hr0
 have HC0 := Aside0.mk hc0
 clear hr0 hc0
 have HB := Aside0.mk (Below.refl w.heap.size w)
 have H : ((spec_l01New.f k l0).bind fun bt457 => ((spec_l06Any.f k bt457.1 bt457.2.1 bt457.2.2).bind fun bt461 => ((spec_PathText.f k bt461.1 bt461.2.1).bind fun bt469 => ((spec_l01Below.f bt457.1 bt461.2.2.1 bt461.2.2.2 6).bind fun bt471 => (if bt471.1 = 0 then ((spec_l02Spoilt.f k bt457.1 bt471.2.1 bt471.2.2 bt469.1).bind fun bt474 => (some bt474.1)) else (if bt471.1 = 1 then ((spec_l01Pick.f bt457.1 bt471.2.1 bt471.2.2 (([(⟨#[]⟩ : ByteArray), (⟨#[77]⟩ : ByteArray), (⟨#[77, 32, 49]⟩ : ByteArray), (⟨#[77, 32, 49, 32, 50, 32]⟩ : ByteArray), (⟨#[76, 32, 49, 32, 50]⟩ : ByteArray), (⟨#[77, 32, 49, 32, 50, 32, 90, 32, 90]⟩ : ByteArray), (⟨#[77, 32, 45, 48, 32, 49]⟩ : ByteArray), (⟨#[77, 32, 49, 32, 32, 50]⟩ : ByteArray), (⟨#[77, 32, 48, 49, 32, 50]⟩ : ByteArray), (⟨#[77, 32, 49, 32, 50, 32, 76, 32, 51, 32, 45, 52, 32, 90]⟩ : ByteArray)] : List ByteArray))).bind fun bt480 => (some bt480.1)) else (some bt469.1))))))) = some r := h
 clear h
 replace H := Option.bind_eq_some_iff.mp H
 obtain ⟨⟨t457, t458, t459⟩, A20, H⟩ := H
 try dsimp only at H
 have A2 := Aside0.mk A20
 clear A20
 replace H := Option.bind_eq_some_iff.mp H
 obtain ⟨⟨t461, t464, t467, t468⟩, A30, H⟩ := H
 try dsimp only at H
 have A3 := Aside0.mk A30
 clear A30
 replace H := Option.bind_eq_some_iff.mp H
 obtain ⟨⟨t469, t470⟩, A40, H⟩ := H
 try dsimp only at H
 have A4 := Aside0.mk A40
 clear A40
 replace H := Option.bind_eq_some_iff.mp H
 obtain ⟨⟨t471, t472, t473⟩, A50, H⟩ := H
 try dsimp only at H
 have A5 := Aside0.mk A50
 clear A50
 by_cases c6 : t471 = 0
 ·rw [if_pos c6] at H
  have c6b0 : (t471 == 0) = true := beq_iff_eq.mpr c6
  have c6b1 : (t471 != 0) = false := bne_eq_false_iff_eq.mpr c6
  clear c6
  replace H := Option.bind_eq_some_iff.mp H
  obtain ⟨⟨t474, t475, t476⟩, A70, H⟩ := H
  try dsimp only at H
  have A7 := Aside0.mk A70
  clear A70
  obtain rfl := Option.some.inj H
  go_enter Tryd.func26, Tryd.ntmps26
  go_wp2_with (first | ((with_reducible refine gate_callee (f := 48) rfl ?_); refine goesL_ (some 7) rfl rfl Tryd.func48 (by kernel_rfl) rfl #[.slice A0 l0.length c0] rfl lm_ ?_; (with_reducible refine (spec_l01New.calls k _ _ l0 t457 t458 t459 w _ ?side1 ?side2 ?side3 A2.out).mono ?_); (case side1 => exact bS); (case side2 => exact HR0.out); (case side3 => exact HC0.out); rintro e w8 ⟨g460, rfl, hi, hb, hb2⟩; refine ⟨_, rfl, ?_⟩; replace HB := Aside0.mk (hb); have HI460 := Aside0.mk (hi); (try clear hb hb2 hi)) | ((with_reducible refine gate_callee (f := 47) rfl ?_); refine goesL_ (some 10) rfl rfl Tryd.func47 (by kernel_rfl) rfl #[.pointer (some ⟨g460, 0, none⟩)] rfl lm_ ?_; (with_reducible refine (spec_l06Any.calls k g460 t457 t458 t459 t461 t464 t467 t468 w _ ?side1 ?side2 A3.out).mono ?_); (case side1 => exact iS4); (case side2 => exact bI4); rintro e w9 ⟨v462, v465, rfl, ho0, ho1, hi, hb, hk⟩; refine ⟨_, rfl, ?_⟩; have HO463 := Aside0.mk (Kd.R_lower ho0 (below_size bI4)); have HO466 := Aside0.mk (Kd.Q_lower ho1 (below_size bI4)); replace HB := Aside0.mk (hb); replace HI460 := Aside0.mk (hi); (try clear hb hk hi ho0 ho1); obtain ⟨Ao10, co10, eo10⟩ := Kd.R_slice HO463.out; subst eo10; obtain ⟨Ao11, co11, eo11, _⟩ := Kd.Q_slice HO466.out; subst eo11) | ((with_reducible refine gate_callee (f := 13) rfl ?_); refine goesL_ (some 11) rfl rfl Tryd.func13 (by kernel_rfl) rfl #[.agg #[.slice Ao10 t461.length co10, .slice Ao11 t464.length co11]] rfl lm_ ?_; (with_reducible refine (spec_PathText.calls k _ _ t461 _ _ t464 t469 t470 _ ?side1 ?side2 ?side3 ?side4 A4.out).mono ?_); (case side1 => exact cc_ (Kd.R_reads' HO463.out).2.2); (case side2 => exact (Kd.R_reads' HO463.out).2.1); (case side3 => exact cc_ (Kd.Q_reads' HO466.out).2.2); (case side4 => exact (Kd.Q_reads' HO466.out).2.1); rintro e w12 ⟨rfl, hb⟩; refine ⟨_, rfl, ?_⟩; replace HO463 := Aside0.mk (Kd.R_below (rr_ HO463.out) hb); replace HO466 := Aside0.mk (Kd.Q_below (qq_ HO466.out) hb); replace HB := Aside0.mk (below_step bI4 hb); replace HI460 := Aside0.mk (IsS92.below iS4 hb); (try clear hb)) | ((with_reducible refine gate_callee (f := 53) rfl ?_); refine goesL_ (some 15) rfl rfl Tryd.func53 (by kernel_rfl) rfl #[.pointer (some ⟨g460, 0, none⟩), .int .i64 6] rfl lm_ ?_; (with_reducible refine (spec_l01Below.calls g460 t457 t467 t468 6 t471 t472 t473 w _ ?side1 ?side2 A5.out).mono ?_); (case side1 => exact iS4); (case side2 => exact bI4); rintro e w13 ⟨rfl, hi, hb, hk⟩; refine ⟨_, rfl, ?_⟩; replace HO463 := Aside0.mk (Kd.R_mono (Kd.R_keep (IsS92.apart (show IsS92 w _ g460 t457 t467 t468 from iS4) (rr_ HO463.out) (by decide)) hk (fun _ h => h.2)) (fun _ h => h.1)); replace HO466 := Aside0.mk (Kd.Q_mono (Kd.Q_keep (IsS92.apartQ (show IsS92 w _ g460 t457 t467 t468 from iS4) (qq_ HO466.out) (by decide)) hk (fun _ h => h.2)) (fun _ h => h.1)); replace HB := Aside0.mk (hb); replace HI460 := Aside0.mk (hi); (try clear hb hk hi)) | ((with_reducible refine gate_callee (f := 54) rfl ?_); refine goesL_ (some 20) rfl rfl Tryd.func54 (by kernel_rfl) rfl #[.pointer (some ⟨g460, 0, none⟩), .string t469] rfl lm_ ?_; (with_reducible refine (spec_l02Spoilt.calls k g460 t457 t472 t473 t469 t474 t475 t476 w _ ?side1 ?side2 A7.out).mono ?_); (case side1 => exact iS4); (case side2 => exact bI4); rintro e w14 ⟨rfl, hi, hb, hk⟩; refine ⟨_, rfl, ?_⟩; replace HO463 := Aside0.mk (Kd.R_mono (Kd.R_keep (IsS92.apart (show IsS92 w _ g460 t457 t472 t473 from iS4) (rr_ HO463.out) (by decide)) hk (fun _ h => h.2)) (fun _ h => h.1)); replace HO466 := Aside0.mk (Kd.Q_mono (Kd.Q_keep (IsS92.apartQ (show IsS92 w _ g460 t457 t472 t473 from iS4) (qq_ HO466.out) (by decide)) hk (fun _ h => h.2)) (fun _ h => h.1)); replace HB := Aside0.mk (hb); replace HI460 := Aside0.mk (hi); (try clear hb hk hi)))
  go_ret
  exact ⟨by first | rfl | (simp [errW_none, errW_some] <;> rfl) | (simp [*, errW_none, errW_some] <;> rfl), by exact bI4⟩
 ·rw [if_neg c6] at H
  have c6b0 : (t471 == 0) = false := beq_eq_false_iff_ne.mpr c6
  have c6b1 : (t471 != 0) = true := bne_iff_ne.mpr c6
  by_cases c15 : t471 = 1
  ·rw [if_pos c15] at H
   have c15b0 : (t471 == 1) = true := beq_iff_eq.mpr c15
   have c15b1 : (t471 != 1) = false := bne_eq_false_iff_eq.mpr c15
   clear c15
   obtain ⟨y477, hy477⟩ : ∃ y_ : List ByteArray, y_ = (([(⟨#[]⟩ : ByteArray), (⟨#[77]⟩ : ByteArray), (⟨#[77, 32, 49]⟩ : ByteArray), (⟨#[77, 32, 49, 32, 50, 32]⟩ : ByteArray), (⟨#[76, 32, 49, 32, 50]⟩ : ByteArray), (⟨#[77, 32, 49, 32, 50, 32, 90, 32, 90]⟩ : ByteArray), (⟨#[77, 32, 45, 48, 32, 49]⟩ : ByteArray), (⟨#[77, 32, 49, 32, 32, 50]⟩ : ByteArray), (⟨#[77, 32, 48, 49, 32, 50]⟩ : ByteArray), (⟨#[77, 32, 49, 32, 50, 32, 76, 32, 51, 32, 45, 52, 32, 90]⟩ : ByteArray)] : List ByteArray)) := ⟨_, rfl⟩
   replace H : ((spec_l01Pick.f t457 t472 t473 y477).bind fun bt480 => (some bt480.1)) = some r := by first | (rw [hy477]; with_reducible exact H) | (have H2_ := (Option.bind_some _ _).symm.trans H; rw [hy477]; with_reducible exact H2_) | (have H2_ := (Option.bind_some _ _).symm.trans H; with_reducible exact H2_) | with_reducible exact H | (rw [hy477]; exact H) | exact H
   have Ny477 := Aside0.mk hy477
   clear hy477
   replace H := Option.bind_eq_some_iff.mp H
   obtain ⟨⟨t480, t481, t482⟩, A160, H⟩ := H
   try dsimp only at H
   have A16 := Aside0.mk A160
   clear A160
   obtain rfl := Option.some.inj H
   go_enter Tryd.func26, Tryd.ntmps26
   go_wp2_with (first | ((with_reducible refine gate_callee (f := 48) rfl ?_); refine goesL_ (some 7) rfl rfl Tryd.func48 (by kernel_rfl) rfl #[.slice A0 l0.length c0] rfl lm_ ?_; (with_reducible refine (spec_l01New.calls k _ _ l0 t457 t458 t459 w _ ?side1 ?side2 ?side3 A2.out).mono ?_); (case side1 => exact bS); (case side2 => exact HR0.out); (case side3 => exact HC0.out); rintro e w17 ⟨g460, rfl, hi, hb, hb2⟩; refine ⟨_, rfl, ?_⟩; replace HB := Aside0.mk (hb); have HI460 := Aside0.mk (hi); (try clear hb hb2 hi)) | ((with_reducible refine gate_callee (f := 47) rfl ?_); refine goesL_ (some 10) rfl rfl Tryd.func47 (by kernel_rfl) rfl #[.pointer (some ⟨g460, 0, none⟩)] rfl lm_ ?_; (with_reducible refine (spec_l06Any.calls k g460 t457 t458 t459 t461 t464 t467 t468 w _ ?side1 ?side2 A3.out).mono ?_); (case side1 => exact iS4); (case side2 => exact bI4); rintro e w18 ⟨v462, v465, rfl, ho0, ho1, hi, hb, hk⟩; refine ⟨_, rfl, ?_⟩; have HO463 := Aside0.mk (Kd.R_lower ho0 (below_size bI4)); have HO466 := Aside0.mk (Kd.Q_lower ho1 (below_size bI4)); replace HB := Aside0.mk (hb); replace HI460 := Aside0.mk (hi); (try clear hb hk hi ho0 ho1); obtain ⟨Ao19, co19, eo19⟩ := Kd.R_slice HO463.out; subst eo19; obtain ⟨Ao20, co20, eo20, _⟩ := Kd.Q_slice HO466.out; subst eo20) | ((with_reducible refine gate_callee (f := 13) rfl ?_); refine goesL_ (some 11) rfl rfl Tryd.func13 (by kernel_rfl) rfl #[.agg #[.slice Ao19 t461.length co19, .slice Ao20 t464.length co20]] rfl lm_ ?_; (with_reducible refine (spec_PathText.calls k _ _ t461 _ _ t464 t469 t470 _ ?side1 ?side2 ?side3 ?side4 A4.out).mono ?_); (case side1 => exact cc_ (Kd.R_reads' HO463.out).2.2); (case side2 => exact (Kd.R_reads' HO463.out).2.1); (case side3 => exact cc_ (Kd.Q_reads' HO466.out).2.2); (case side4 => exact (Kd.Q_reads' HO466.out).2.1); rintro e w21 ⟨rfl, hb⟩; refine ⟨_, rfl, ?_⟩; replace HO463 := Aside0.mk (Kd.R_below (rr_ HO463.out) hb); replace HO466 := Aside0.mk (Kd.Q_below (qq_ HO466.out) hb); replace HB := Aside0.mk (below_step bI4 hb); replace HI460 := Aside0.mk (IsS92.below iS4 hb); (try clear hb)) | ((with_reducible refine gate_callee (f := 53) rfl ?_); refine goesL_ (some 15) rfl rfl Tryd.func53 (by kernel_rfl) rfl #[.pointer (some ⟨g460, 0, none⟩), .int .i64 6] rfl lm_ ?_; (with_reducible refine (spec_l01Below.calls g460 t457 t467 t468 6 t471 t472 t473 w _ ?side1 ?side2 A5.out).mono ?_); (case side1 => exact iS4); (case side2 => exact bI4); rintro e w22 ⟨rfl, hi, hb, hk⟩; refine ⟨_, rfl, ?_⟩; replace HO463 := Aside0.mk (Kd.R_mono (Kd.R_keep (IsS92.apart (show IsS92 w _ g460 t457 t467 t468 from iS4) (rr_ HO463.out) (by decide)) hk (fun _ h => h.2)) (fun _ h => h.1)); replace HO466 := Aside0.mk (Kd.Q_mono (Kd.Q_keep (IsS92.apartQ (show IsS92 w _ g460 t457 t467 t468 from iS4) (qq_ HO466.out) (by decide)) hk (fun _ h => h.2)) (fun _ h => h.1)); replace HB := Aside0.mk (hb); replace HI460 := Aside0.mk (hi); (try clear hb hk hi)) | ((with_reducible refine gate_dst (N := 24) rfl ?_); refine Kd.R_lit Kd.string _ 9 ?hg (N := 24) ?hd (xs := ([(⟨#[]⟩ : ByteArray), (⟨#[77]⟩ : ByteArray), (⟨#[77, 32, 49]⟩ : ByteArray), (⟨#[77, 32, 49, 32, 50, 32]⟩ : ByteArray), (⟨#[76, 32, 49, 32, 50]⟩ : ByteArray), (⟨#[77, 32, 49, 32, 50, 32, 90, 32, 90]⟩ : ByteArray), (⟨#[77, 32, 45, 48, 32, 49]⟩ : ByteArray), (⟨#[77, 32, 49, 32, 32, 50]⟩ : ByteArray), (⟨#[77, 32, 48, 49, 32, 50]⟩ : ByteArray), (⟨#[77, 32, 49, 32, 50, 32, 76, 32, 51, 32, 45, 52, 32, 90]⟩ : ByteArray)] : List ByteArray)) (inner := [.string (⟨#[]⟩ : ByteArray), .string (⟨#[77]⟩ : ByteArray), .string (⟨#[77, 32, 49]⟩ : ByteArray), .string (⟨#[77, 32, 49, 32, 50, 32]⟩ : ByteArray), .string (⟨#[76, 32, 49, 32, 50]⟩ : ByteArray), .string (⟨#[77, 32, 49, 32, 50, 32, 90, 32, 90]⟩ : ByteArray), .string (⟨#[77, 32, 45, 48, 32, 49]⟩ : ByteArray), .string (⟨#[77, 32, 49, 32, 32, 50]⟩ : ByteArray), .string (⟨#[77, 32, 48, 49, 32, 50]⟩ : ByteArray), .string (⟨#[77, 32, 49, 32, 50, 32, 76, 32, 51, 32, 45, 52, 32, 90]⟩ : ByteArray)]) (ok := fun _ => True) (okp := fun _ => True) ?hr ?hp (fun _ hk => hk) trivial (Below.refl _ _) (Nat.le_refl _) (by simp) ?_; (case hd => rfl); (case hg => rfl); (case hr => first | (go_simp; done) | (go_simp; rfl)); (case hp => exact (Reps.one (show Kd.M Kd.string _ _ _ (⟨#[]⟩ : ByteArray) [.string (⟨#[]⟩ : ByteArray)] from rfl) (Reps.one (show Kd.M Kd.string _ _ _ (⟨#[77]⟩ : ByteArray) [.string (⟨#[77]⟩ : ByteArray)] from rfl) (Reps.one (show Kd.M Kd.string _ _ _ (⟨#[77, 32, 49]⟩ : ByteArray) [.string (⟨#[77, 32, 49]⟩ : ByteArray)] from rfl) (Reps.one (show Kd.M Kd.string _ _ _ (⟨#[77, 32, 49, 32, 50, 32]⟩ : ByteArray) [.string (⟨#[77, 32, 49, 32, 50, 32]⟩ : ByteArray)] from rfl) (Reps.one (show Kd.M Kd.string _ _ _ (⟨#[76, 32, 49, 32, 50]⟩ : ByteArray) [.string (⟨#[76, 32, 49, 32, 50]⟩ : ByteArray)] from rfl) (Reps.one (show Kd.M Kd.string _ _ _ (⟨#[77, 32, 49, 32, 50, 32, 90, 32, 90]⟩ : ByteArray) [.string (⟨#[77, 32, 49, 32, 50, 32, 90, 32, 90]⟩ : ByteArray)] from rfl) (Reps.one (show Kd.M Kd.string _ _ _ (⟨#[77, 32, 45, 48, 32, 49]⟩ : ByteArray) [.string (⟨#[77, 32, 45, 48, 32, 49]⟩ : ByteArray)] from rfl) (Reps.one (show Kd.M Kd.string _ _ _ (⟨#[77, 32, 49, 32, 32, 50]⟩ : ByteArray) [.string (⟨#[77, 32, 49, 32, 32, 50]⟩ : ByteArray)] from rfl) (Reps.one (show Kd.M Kd.string _ _ _ (⟨#[77, 32, 48, 49, 32, 50]⟩ : ByteArray) [.string (⟨#[77, 32, 48, 49, 32, 50]⟩ : ByteArray)] from rfl) (Reps.one (show Kd.M Kd.string _ _ _ (⟨#[77, 32, 49, 32, 50, 32, 76, 32, 51, 32, 45, 52, 32, 90]⟩ : ByteArray) [.string (⟨#[77, 32, 49, 32, 50, 32, 76, 32, 51, 32, 45, 52, 32, 90]⟩ : ByteArray)] from rfl) (Reps.none _ _)))))))))))); intro v478 w23 ho24 hb hg_ hnew_; clear hg_ hnew_; (first | rw [← Ny477.out] at ho24 | (simp only [Int.reduceToNat] at ho24; rw [← Ny477.out] at ho24)); replace HO463 := Aside0.mk (Kd.R_below (rr_ HO463.out) hb); replace HO466 := Aside0.mk (Kd.Q_below (qq_ HO466.out) hb); have HO479 := Aside0.mk (Kd.R_lower ho24 (below_size bI4)); replace HB := Aside0.mk (below_step bI4 hb); replace HI460 := Aside0.mk (IsS92.below iS4 hb); clear hb ho24; obtain ⟨Ao25, co25, eo25⟩ := Kd.R_slice HO479.out; subst eo25) | ((with_reducible refine gate_callee (f := 55) rfl ?_); refine goesL_ (some 25) rfl rfl Tryd.func55 (by kernel_rfl) rfl #[.pointer (some ⟨g460, 0, none⟩), .slice Ao25 y477.length co25] rfl lm_ ?_; (with_reducible refine (spec_l01Pick.calls g460 t457 t472 t473 _ _ y477 t480 t481 t482 w _ ?side1 ?side2 ?side3 ?side4 ?side5 A16.out).mono ?_); (case side1 => exact iS4); (case side2 => exact bI4); (case side3 => exact cc_ (Kd.R_reads' HO479.out).2.2); (case side4 => exact (Kd.R_reads' HO479.out).2.1); (case side5 => exact far_slice (IsS92.own_ne HI460.out HO479.out (by decide))); rintro e w26 ⟨rfl, hi, hb, hk⟩; refine ⟨_, rfl, ?_⟩; replace HO463 := Aside0.mk (Kd.R_mono (Kd.R_keep (IsS92.apart (show IsS92 w _ g460 t457 t472 t473 from iS4) (rr_ HO463.out) (by decide)) hk (fun _ h => h.2)) (fun _ h => h.1)); replace HO466 := Aside0.mk (Kd.Q_mono (Kd.Q_keep (IsS92.apartQ (show IsS92 w _ g460 t457 t472 t473 from iS4) (qq_ HO466.out) (by decide)) hk (fun _ h => h.2)) (fun _ h => h.1)); replace HO479 := Aside0.mk (Kd.R_mono (Kd.R_keep (IsS92.apart (show IsS92 w _ g460 t457 t472 t473 from iS4) (rr_ HO479.out) (by decide)) hk (fun _ h => h.2)) (fun _ h => h.1)); replace HB := Aside0.mk (hb); replace HI460 := Aside0.mk (hi); (try clear hb hk hi)))
   go_ret
   exact ⟨by first | rfl | (simp [errW_none, errW_some] <;> rfl) | (simp [*, errW_none, errW_some] <;> rfl), by exact bI4⟩
  ·rw [if_neg c15] at H
   have c15b0 : (t471 == 1) = false := beq_eq_false_iff_ne.mpr c15
   have c15b1 : (t471 != 1) = true := bne_iff_ne.mpr c15
   obtain rfl := Option.some.inj H
   go_enter Tryd.func26, Tryd.ntmps26
   go_wp2_with (first | ((with_reducible refine gate_callee (f := 48) rfl ?_); refine goesL_ (some 7) rfl rfl Tryd.func48 (by kernel_rfl) rfl #[.slice A0 l0.length c0] rfl lm_ ?_; (with_reducible refine (spec_l01New.calls k _ _ l0 t457 t458 t459 w _ ?side1 ?side2 ?side3 A2.out).mono ?_); (case side1 => exact bS); (case side2 => exact HR0.out); (case side3 => exact HC0.out); rintro e w27 ⟨g460, rfl, hi, hb, hb2⟩; refine ⟨_, rfl, ?_⟩; replace HB := Aside0.mk (hb); have HI460 := Aside0.mk (hi); (try clear hb hb2 hi)) | ((with_reducible refine gate_callee (f := 47) rfl ?_); refine goesL_ (some 10) rfl rfl Tryd.func47 (by kernel_rfl) rfl #[.pointer (some ⟨g460, 0, none⟩)] rfl lm_ ?_; (with_reducible refine (spec_l06Any.calls k g460 t457 t458 t459 t461 t464 t467 t468 w _ ?side1 ?side2 A3.out).mono ?_); (case side1 => exact iS4); (case side2 => exact bI4); rintro e w28 ⟨v462, v465, rfl, ho0, ho1, hi, hb, hk⟩; refine ⟨_, rfl, ?_⟩; have HO463 := Aside0.mk (Kd.R_lower ho0 (below_size bI4)); have HO466 := Aside0.mk (Kd.Q_lower ho1 (below_size bI4)); replace HB := Aside0.mk (hb); replace HI460 := Aside0.mk (hi); (try clear hb hk hi ho0 ho1); obtain ⟨Ao29, co29, eo29⟩ := Kd.R_slice HO463.out; subst eo29; obtain ⟨Ao30, co30, eo30, _⟩ := Kd.Q_slice HO466.out; subst eo30) | ((with_reducible refine gate_callee (f := 13) rfl ?_); refine goesL_ (some 11) rfl rfl Tryd.func13 (by kernel_rfl) rfl #[.agg #[.slice Ao29 t461.length co29, .slice Ao30 t464.length co30]] rfl lm_ ?_; (with_reducible refine (spec_PathText.calls k _ _ t461 _ _ t464 t469 t470 _ ?side1 ?side2 ?side3 ?side4 A4.out).mono ?_); (case side1 => exact cc_ (Kd.R_reads' HO463.out).2.2); (case side2 => exact (Kd.R_reads' HO463.out).2.1); (case side3 => exact cc_ (Kd.Q_reads' HO466.out).2.2); (case side4 => exact (Kd.Q_reads' HO466.out).2.1); rintro e w31 ⟨rfl, hb⟩; refine ⟨_, rfl, ?_⟩; replace HO463 := Aside0.mk (Kd.R_below (rr_ HO463.out) hb); replace HO466 := Aside0.mk (Kd.Q_below (qq_ HO466.out) hb); replace HB := Aside0.mk (below_step bI4 hb); replace HI460 := Aside0.mk (IsS92.below iS4 hb); (try clear hb)) | ((with_reducible refine gate_callee (f := 53) rfl ?_); refine goesL_ (some 15) rfl rfl Tryd.func53 (by kernel_rfl) rfl #[.pointer (some ⟨g460, 0, none⟩), .int .i64 6] rfl lm_ ?_; (with_reducible refine (spec_l01Below.calls g460 t457 t467 t468 6 t471 t472 t473 w _ ?side1 ?side2 A5.out).mono ?_); (case side1 => exact iS4); (case side2 => exact bI4); rintro e w32 ⟨rfl, hi, hb, hk⟩; refine ⟨_, rfl, ?_⟩; replace HO463 := Aside0.mk (Kd.R_mono (Kd.R_keep (IsS92.apart (show IsS92 w _ g460 t457 t467 t468 from iS4) (rr_ HO463.out) (by decide)) hk (fun _ h => h.2)) (fun _ h => h.1)); replace HO466 := Aside0.mk (Kd.Q_mono (Kd.Q_keep (IsS92.apartQ (show IsS92 w _ g460 t457 t467 t468 from iS4) (qq_ HO466.out) (by decide)) hk (fun _ h => h.2)) (fun _ h => h.1)); replace HB := Aside0.mk (hb); replace HI460 := Aside0.mk (hi); (try clear hb hk hi)))
   go_ret
   exact ⟨by first | rfl | (simp [errW_none, errW_some] <;> rfl) | (simp [*, errW_none, errW_some] <;> rfl), by exact bI4⟩

end Go.Proofs.YtpmgfmalpijjbaaDoor.PFnPaths
