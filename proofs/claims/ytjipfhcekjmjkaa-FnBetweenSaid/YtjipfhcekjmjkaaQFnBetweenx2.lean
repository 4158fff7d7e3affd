/- The walks of FnBetween, part 2: what the print wrote, with some proofs of the session's own. -/
import Derived.Test.YtjipfhcekjmjkaaName
import Derived.Test.YtjipfhcekjmjkaaPFnBetweenx0
import Derived.Test.YtjipfhcekjmjkaaQFnBetweenx1
namespace Go.Proofs.Ytjipfhcekjmjkaa.PFnBetween
open Go.RowKit Go.Proofs.YtjipfhcekjmjkaaW.PrintWords Go.Proofs.YtjipfhcekjmjkaaW.PrintLast Go.Proofs.YtjipfhcekjmjkaaW.PrintMore
attribute [local go_sem] max2_int min2_int max_two min_two max_three min_three max_four min_four   -- for this text's walks alone
set_option linter.unusedVariables false
set_option linter.unusedSimpArgs false

/-! ### laws_FnBetween: function 13 -/
def laws_FnBetween.f (k : Nat) (l0 : List Int) : Option (Bool) := (laws_big.f l0).bind fun t144 => (if t144 = true then (some true) else ((spec_DrawPlaces.f k l0).bind fun t145 => (if 0 < (t145.length : Int) then (if 1 < (t145.length : Int) then (if 2 < (t145.length : Int) then ((impl_Clamp.f (wrap64 ((wrap64 ((rd t145 2) * 2)) - 10000)) (wrap64 ((rd t145 0) - 5000)) (wrap64 ((wrap64 ((rd t145 0) - 5000)) + (rd t145 1)))).bind fun t151 => (if 3 < (t145.length : Int) then (if 4 < (t145.length : Int) then ((impl_Times255.f (Int.tmod (rd t145 3) 256) (Int.tmod (rd t145 4) 256)).bind fun t154 => (if t151 ≥ (wrap64 ((rd t145 0) - 5000)) then (if t151 ≤ (wrap64 ((wrap64 ((rd t145 0) - 5000)) + (rd t145 1))) then (if (wrap64 ((wrap64 ((rd t145 2) * 2)) - 10000)) < (wrap64 ((rd t145 0) - 5000)) then ((impl_Clamp.f t151 (wrap64 ((rd t145 0) - 5000)) (wrap64 ((wrap64 ((rd t145 0) - 5000)) + (rd t145 1)))).bind fun t155 => (if t155 = t151 then (if t154 ≤ (Int.tmod (rd t145 3) 256) then (if t154 ≤ (Int.tmod (rd t145 4) 256) then (if t154 ≥ 0 then ((impl_Times255.f (Int.tmod (rd t145 4) 256) (Int.tmod (rd t145 3) 256)).bind fun t156 => (if t154 = t156 then ((impl_Times255.f (Int.tmod (rd t145 3) 256) 255).bind fun t157 => (if t157 = (Int.tmod (rd t145 3) 256) then ((impl_Times255.f (Int.tmod (rd t145 3) 256) 0).bind fun t158 => (if t158 = 0 then ((spec_Times255.f (Int.tmod (rd t145 3) 256) (Int.tmod (rd t145 4) 256)).bind fun t159 => (some (t154 == t159))) else (some false))) else (some false))) else (some false))) else (some false)) else (some false)) else (some false)) else (some false))) else (if (wrap64 ((wrap64 ((rd t145 2) * 2)) - 10000)) > (wrap64 ((wrap64 ((rd t145 0) - 5000)) + (rd t145 1))) then ((impl_Clamp.f t151 (wrap64 ((rd t145 0) - 5000)) (wrap64 ((wrap64 ((rd t145 0) - 5000)) + (rd t145 1)))).bind fun t160 => (if t160 = t151 then (if t154 ≤ (Int.tmod (rd t145 3) 256) then (if t154 ≤ (Int.tmod (rd t145 4) 256) then (if t154 ≥ 0 then ((impl_Times255.f (Int.tmod (rd t145 4) 256) (Int.tmod (rd t145 3) 256)).bind fun t161 => (if t154 = t161 then ((impl_Times255.f (Int.tmod (rd t145 3) 256) 255).bind fun t162 => (if t162 = (Int.tmod (rd t145 3) 256) then ((impl_Times255.f (Int.tmod (rd t145 3) 256) 0).bind fun t163 => (if t163 = 0 then ((spec_Times255.f (Int.tmod (rd t145 3) 256) (Int.tmod (rd t145 4) 256)).bind fun t164 => (some (t154 == t164))) else (some false))) else (some false))) else (some false))) else (some false)) else (some false)) else (some false)) else (some false))) else (if t151 = (wrap64 ((wrap64 ((rd t145 2) * 2)) - 10000)) then ((impl_Clamp.f t151 (wrap64 ((rd t145 0) - 5000)) (wrap64 ((wrap64 ((rd t145 0) - 5000)) + (rd t145 1)))).bind fun t165 => (if t165 = t151 then (if t154 ≤ (Int.tmod (rd t145 3) 256) then (if t154 ≤ (Int.tmod (rd t145 4) 256) then (if t154 ≥ 0 then ((impl_Times255.f (Int.tmod (rd t145 4) 256) (Int.tmod (rd t145 3) 256)).bind fun t166 => (if t154 = t166 then ((impl_Times255.f (Int.tmod (rd t145 3) 256) 255).bind fun t167 => (if t167 = (Int.tmod (rd t145 3) 256) then ((impl_Times255.f (Int.tmod (rd t145 3) 256) 0).bind fun t168 => (if t168 = 0 then ((spec_Times255.f (Int.tmod (rd t145 3) 256) (Int.tmod (rd t145 4) 256)).bind fun t169 => (some (t154 == t169))) else (some false))) else (some false))) else (some false))) else (some false)) else (some false)) else (some false)) else (some false))) else (some false)))) else (some false)) else (some false))) else (none)) else (none))) else (none)) else (none)) else (none))))
theorem laws_FnBetween.mono : ∀ a0 k, LeO (laws_FnBetween.f k a0) (laws_FnBetween.f (k + 1) a0) := by
  intro a0 k
  unfold laws_FnBetween.f
  repeat' first
      | (with_reducible exact spec_DrawPlaces.mono _ _)
      | (with_reducible exact LeO.refl _)
      | (with_reducible exact LeO.none _)
      | (with_reducible refine LeO.ite ?_ ?_)
      | (with_reducible refine LeO.bind ?_ (fun _ => ?_))
      | exact spec_DrawPlaces.mono _ _
      | exact LeO.none _
      | refine LeO.ite ?_ ?_
      | refine LeO.bind ?_ (fun _ => ?_)
set_option maxHeartbeats 8000000 in
set_option maxRecDepth 100000 in
theorem laws_FnBetween.calls (k : Nat) (A0 : Option Addr) (c0 : Nat) (l0 : List Int) (r : Bool) (hr_ : r = true) (w : World) (hr0 : Kd.C (Kd.int .u8) w A0 l0.length l0) (hc0 : l0.length ≤ c0) (h : laws_FnBetween.f k l0 = some r) :
    Calls Try.prog 13 #[.slice A0 l0.length c0] w fun e w' => e = .returned (.bool r) ∧ Below w.heap.size w w' := by
  have HR0 := Aside0.mk hr0
  have HC0 := Aside0.mk hc0
  clear hr0 hc0
  have HB := Aside0.mk (Below.refl w.heap.size w)
  have H : ((laws_big.f l0).bind fun t144 => (if t144 = true then (some true) else ((spec_DrawPlaces.f k l0).bind fun t145 => (if 0 < (t145.length : Int) then (if 1 < (t145.length : Int) then (if 2 < (t145.length : Int) then ((impl_Clamp.f (wrap64 ((wrap64 ((rd t145 2) * 2)) - 10000)) (wrap64 ((rd t145 0) - 5000)) (wrap64 ((wrap64 ((rd t145 0) - 5000)) + (rd t145 1)))).bind fun t151 => (if 3 < (t145.length : Int) then (if 4 < (t145.length : Int) then ((impl_Times255.f (Int.tmod (rd t145 3) 256) (Int.tmod (rd t145 4) 256)).bind fun t154 => (if t151 ≥ (wrap64 ((rd t145 0) - 5000)) then (if t151 ≤ (wrap64 ((wrap64 ((rd t145 0) - 5000)) + (rd t145 1))) then (if (wrap64 ((wrap64 ((rd t145 2) * 2)) - 10000)) < (wrap64 ((rd t145 0) - 5000)) then ((impl_Clamp.f t151 (wrap64 ((rd t145 0) - 5000)) (wrap64 ((wrap64 ((rd t145 0) - 5000)) + (rd t145 1)))).bind fun t155 => (if t155 = t151 then (if t154 ≤ (Int.tmod (rd t145 3) 256) then (if t154 ≤ (Int.tmod (rd t145 4) 256) then (if t154 ≥ 0 then ((impl_Times255.f (Int.tmod (rd t145 4) 256) (Int.tmod (rd t145 3) 256)).bind fun t156 => (if t154 = t156 then ((impl_Times255.f (Int.tmod (rd t145 3) 256) 255).bind fun t157 => (if t157 = (Int.tmod (rd t145 3) 256) then ((impl_Times255.f (Int.tmod (rd t145 3) 256) 0).bind fun t158 => (if t158 = 0 then ((spec_Times255.f (Int.tmod (rd t145 3) 256) (Int.tmod (rd t145 4) 256)).bind fun t159 => (some (t154 == t159))) else (some false))) else (some false))) else (some false))) else (some false)) else (some false)) else (some false)) else (some false))) else (if (wrap64 ((wrap64 ((rd t145 2) * 2)) - 10000)) > (wrap64 ((wrap64 ((rd t145 0) - 5000)) + (rd t145 1))) then ((impl_Clamp.f t151 (wrap64 ((rd t145 0) - 5000)) (wrap64 ((wrap64 ((rd t145 0) - 5000)) + (rd t145 1)))).bind fun t160 => (if t160 = t151 then (if t154 ≤ (Int.tmod (rd t145 3) 256) then (if t154 ≤ (Int.tmod (rd t145 4) 256) then (if t154 ≥ 0 then ((impl_Times255.f (Int.tmod (rd t145 4) 256) (Int.tmod (rd t145 3) 256)).bind fun t161 => (if t154 = t161 then ((impl_Times255.f (Int.tmod (rd t145 3) 256) 255).bind fun t162 => (if t162 = (Int.tmod (rd t145 3) 256) then ((impl_Times255.f (Int.tmod (rd t145 3) 256) 0).bind fun t163 => (if t163 = 0 then ((spec_Times255.f (Int.tmod (rd t145 3) 256) (Int.tmod (rd t145 4) 256)).bind fun t164 => (some (t154 == t164))) else (some false))) else (some false))) else (some false))) else (some false)) else (some false)) else (some false)) else (some false))) else (if t151 = (wrap64 ((wrap64 ((rd t145 2) * 2)) - 10000)) then ((impl_Clamp.f t151 (wrap64 ((rd t145 0) - 5000)) (wrap64 ((wrap64 ((rd t145 0) - 5000)) + (rd t145 1)))).bind fun t165 => (if t165 = t151 then (if t154 ≤ (Int.tmod (rd t145 3) 256) then (if t154 ≤ (Int.tmod (rd t145 4) 256) then (if t154 ≥ 0 then ((impl_Times255.f (Int.tmod (rd t145 4) 256) (Int.tmod (rd t145 3) 256)).bind fun t166 => (if t154 = t166 then ((impl_Times255.f (Int.tmod (rd t145 3) 256) 255).bind fun t167 => (if t167 = (Int.tmod (rd t145 3) 256) then ((impl_Times255.f (Int.tmod (rd t145 3) 256) 0).bind fun t168 => (if t168 = 0 then ((spec_Times255.f (Int.tmod (rd t145 3) 256) (Int.tmod (rd t145 4) 256)).bind fun t169 => (some (t154 == t169))) else (some false))) else (some false))) else (some false))) else (some false)) else (some false)) else (some false)) else (some false))) else (some false)))) else (some false)) else (some false))) else (none)) else (none))) else (none)) else (none)) else (none))))) = some r := h
  clear h
  replace H := Option.bind_eq_some_iff.mp H
  obtain ⟨t144, A20, H⟩ := H
  replace H : (if t144 = true then (some true) else ((spec_DrawPlaces.f k l0).bind fun t145 => (if 0 < (t145.length : Int) then (if 1 < (t145.length : Int) then (if 2 < (t145.length : Int) then ((impl_Clamp.f (wrap64 ((wrap64 ((rd t145 2) * 2)) - 10000)) (wrap64 ((rd t145 0) - 5000)) (wrap64 ((wrap64 ((rd t145 0) - 5000)) + (rd t145 1)))).bind fun t151 => (if 3 < (t145.length : Int) then (if 4 < (t145.length : Int) then ((impl_Times255.f (Int.tmod (rd t145 3) 256) (Int.tmod (rd t145 4) 256)).bind fun t154 => (if t151 ≥ (wrap64 ((rd t145 0) - 5000)) then (if t151 ≤ (wrap64 ((wrap64 ((rd t145 0) - 5000)) + (rd t145 1))) then (if (wrap64 ((wrap64 ((rd t145 2) * 2)) - 10000)) < (wrap64 ((rd t145 0) - 5000)) then ((impl_Clamp.f t151 (wrap64 ((rd t145 0) - 5000)) (wrap64 ((wrap64 ((rd t145 0) - 5000)) + (rd t145 1)))).bind fun t155 => (if t155 = t151 then (if t154 ≤ (Int.tmod (rd t145 3) 256) then (if t154 ≤ (Int.tmod (rd t145 4) 256) then (if t154 ≥ 0 then ((impl_Times255.f (Int.tmod (rd t145 4) 256) (Int.tmod (rd t145 3) 256)).bind fun t156 => (if t154 = t156 then ((impl_Times255.f (Int.tmod (rd t145 3) 256) 255).bind fun t157 => (if t157 = (Int.tmod (rd t145 3) 256) then ((impl_Times255.f (Int.tmod (rd t145 3) 256) 0).bind fun t158 => (if t158 = 0 then ((spec_Times255.f (Int.tmod (rd t145 3) 256) (Int.tmod (rd t145 4) 256)).bind fun t159 => (some (t154 == t159))) else (some false))) else (some false))) else (some false))) else (some false)) else (some false)) else (some false)) else (some false))) else (if (wrap64 ((wrap64 ((rd t145 2) * 2)) - 10000)) > (wrap64 ((wrap64 ((rd t145 0) - 5000)) + (rd t145 1))) then ((impl_Clamp.f t151 (wrap64 ((rd t145 0) - 5000)) (wrap64 ((wrap64 ((rd t145 0) - 5000)) + (rd t145 1)))).bind fun t160 => (if t160 = t151 then (if t154 ≤ (Int.tmod (rd t145 3) 256) then (if t154 ≤ (Int.tmod (rd t145 4) 256) then (if t154 ≥ 0 then ((impl_Times255.f (Int.tmod (rd t145 4) 256) (Int.tmod (rd t145 3) 256)).bind fun t161 => (if t154 = t161 then ((impl_Times255.f (Int.tmod (rd t145 3) 256) 255).bind fun t162 => (if t162 = (Int.tmod (rd t145 3) 256) then ((impl_Times255.f (Int.tmod (rd t145 3) 256) 0).bind fun t163 => (if t163 = 0 then ((spec_Times255.f (Int.tmod (rd t145 3) 256) (Int.tmod (rd t145 4) 256)).bind fun t164 => (some (t154 == t164))) else (some false))) else (some false))) else (some false))) else (some false)) else (some false)) else (some false)) else (some false))) else (if t151 = (wrap64 ((wrap64 ((rd t145 2) * 2)) - 10000)) then ((impl_Clamp.f t151 (wrap64 ((rd t145 0) - 5000)) (wrap64 ((wrap64 ((rd t145 0) - 5000)) + (rd t145 1)))).bind fun t165 => (if t165 = t151 then (if t154 ≤ (Int.tmod (rd t145 3) 256) then (if t154 ≤ (Int.tmod (rd t145 4) 256) then (if t154 ≥ 0 then ((impl_Times255.f (Int.tmod (rd t145 4) 256) (Int.tmod (rd t145 3) 256)).bind fun t166 => (if t154 = t166 then ((impl_Times255.f (Int.tmod (rd t145 3) 256) 255).bind fun t167 => (if t167 = (Int.tmod (rd t145 3) 256) then ((impl_Times255.f (Int.tmod (rd t145 3) 256) 0).bind fun t168 => (if t168 = 0 then ((spec_Times255.f (Int.tmod (rd t145 3) 256) (Int.tmod (rd t145 4) 256)).bind fun t169 => (some (t154 == t169))) else (some false))) else (some false))) else (some false))) else (some false)) else (some false)) else (some false)) else (some false))) else (some false)))) else (some false)) else (some false))) else (none)) else (none))) else (none)) else (none)) else (none)))) = some r := H
  have A2 := Aside0.mk A20
  clear A20
  by_cases c3 : t144 = true
  · subst c3
    have H1 : (some true) = some r := by rw [if_pos rfl] at H; exact H
    clear H
    have H := H1
    clear H1
    obtain rfl := Option.some.inj H
    go_enter Try.func13, Try.ntmps13
    go_wp2_with (first | ((with_reducible refine gate_callee (f := 33) rfl ?_); refine goesL_ (some 12) rfl rfl Try.func33 (by kernel_rfl) rfl #[.slice A0 l0.length c0] rfl (by (try simp only [List.map_toArray, List.map_cons, List.map_nil]); first | done | rfl | (simp only [List.length_drop, List.length_take]; rfl)) ?_; (with_reducible refine (laws_big.calls _ _ l0 true _ ?side1 ?side2 A2.out).mono ?_); (case side1 => repeat (first | exact HR0.out | (with_reducible refine Kd.C_alloc ?_ _) | (with_reducible refine Kd.C_drewN ?_ _) | (with_reducible refine Kd.C_drew ?_))); (case side2 => exact HC0.out); rintro e w' ⟨rfl, ⟨nd, rfl⟩⟩; refine ⟨_, rfl, ?_⟩))
    go_ret
    exact ⟨by first | rfl | (simp [errW_none, errW_some] <;> rfl) | (simp [*, errW_none, errW_some] <;> rfl), by repeat (first | (with_reducible first | exact HB.out | apply below_alloc | apply pw_below_drewN | apply below_drew1) | exact HB.out)⟩
  · replace c3 := Bool.eq_false_iff.mpr c3
    subst c3
    have H1 : ((spec_DrawPlaces.f k l0).bind fun t145 => (if 0 < (t145.length : Int) then (if 1 < (t145.length : Int) then (if 2 < (t145.length : Int) then ((impl_Clamp.f (wrap64 ((wrap64 ((rd t145 2) * 2)) - 10000)) (wrap64 ((rd t145 0) - 5000)) (wrap64 ((wrap64 ((rd t145 0) - 5000)) + (rd t145 1)))).bind fun t151 => (if 3 < (t145.length : Int) then (if 4 < (t145.length : Int) then ((impl_Times255.f (Int.tmod (rd t145 3) 256) (Int.tmod (rd t145 4) 256)).bind fun t154 => (if t151 ≥ (wrap64 ((rd t145 0) - 5000)) then (if t151 ≤ (wrap64 ((wrap64 ((rd t145 0) - 5000)) + (rd t145 1))) then (if (wrap64 ((wrap64 ((rd t145 2) * 2)) - 10000)) < (wrap64 ((rd t145 0) - 5000)) then ((impl_Clamp.f t151 (wrap64 ((rd t145 0) - 5000)) (wrap64 ((wrap64 ((rd t145 0) - 5000)) + (rd t145 1)))).bind fun t155 => (if t155 = t151 then (if t154 ≤ (Int.tmod (rd t145 3) 256) then (if t154 ≤ (Int.tmod (rd t145 4) 256) then (if t154 ≥ 0 then ((impl_Times255.f (Int.tmod (rd t145 4) 256) (Int.tmod (rd t145 3) 256)).bind fun t156 => (if t154 = t156 then ((impl_Times255.f (Int.tmod (rd t145 3) 256) 255).bind fun t157 => (if t157 = (Int.tmod (rd t145 3) 256) then ((impl_Times255.f (Int.tmod (rd t145 3) 256) 0).bind fun t158 => (if t158 = 0 then ((spec_Times255.f (Int.tmod (rd t145 3) 256) (Int.tmod (rd t145 4) 256)).bind fun t159 => (some (t154 == t159))) else (some false))) else (some false))) else (some false))) else (some false)) else (some false)) else (some false)) else (some false))) else (if (wrap64 ((wrap64 ((rd t145 2) * 2)) - 10000)) > (wrap64 ((wrap64 ((rd t145 0) - 5000)) + (rd t145 1))) then ((impl_Clamp.f t151 (wrap64 ((rd t145 0) - 5000)) (wrap64 ((wrap64 ((rd t145 0) - 5000)) + (rd t145 1)))).bind fun t160 => (if t160 = t151 then (if t154 ≤ (Int.tmod (rd t145 3) 256) then (if t154 ≤ (Int.tmod (rd t145 4) 256) then (if t154 ≥ 0 then ((impl_Times255.f (Int.tmod (rd t145 4) 256) (Int.tmod (rd t145 3) 256)).bind fun t161 => (if t154 = t161 then ((impl_Times255.f (Int.tmod (rd t145 3) 256) 255).bind fun t162 => (if t162 = (Int.tmod (rd t145 3) 256) then ((impl_Times255.f (Int.tmod (rd t145 3) 256) 0).bind fun t163 => (if t163 = 0 then ((spec_Times255.f (Int.tmod (rd t145 3) 256) (Int.tmod (rd t145 4) 256)).bind fun t164 => (some (t154 == t164))) else (some false))) else (some false))) else (some false))) else (some false)) else (some false)) else (some false)) else (some false))) else (if t151 = (wrap64 ((wrap64 ((rd t145 2) * 2)) - 10000)) then ((impl_Clamp.f t151 (wrap64 ((rd t145 0) - 5000)) (wrap64 ((wrap64 ((rd t145 0) - 5000)) + (rd t145 1)))).bind fun t165 => (if t165 = t151 then (if t154 ≤ (Int.tmod (rd t145 3) 256) then (if t154 ≤ (Int.tmod (rd t145 4) 256) then (if t154 ≥ 0 then ((impl_Times255.f (Int.tmod (rd t145 4) 256) (Int.tmod (rd t145 3) 256)).bind fun t166 => (if t154 = t166 then ((impl_Times255.f (Int.tmod (rd t145 3) 256) 255).bind fun t167 => (if t167 = (Int.tmod (rd t145 3) 256) then ((impl_Times255.f (Int.tmod (rd t145 3) 256) 0).bind fun t168 => (if t168 = 0 then ((spec_Times255.f (Int.tmod (rd t145 3) 256) (Int.tmod (rd t145 4) 256)).bind fun t169 => (some (t154 == t169))) else (some false))) else (some false))) else (some false))) else (some false)) else (some false)) else (some false)) else (some false))) else (some false)))) else (some false)) else (some false))) else (none)) else (none))) else (none)) else (none)) else (none))) = some r := by rw [if_neg (show ¬ (false = true) by decide)] at H; exact H
    clear H
    have H := H1
    clear H1
    replace H := Option.bind_eq_some_iff.mp H
    obtain ⟨t145, A40, H⟩ := H
    replace H : (if 0 < (t145.length : Int) then (if 1 < (t145.length : Int) then (if 2 < (t145.length : Int) then ((impl_Clamp.f (wrap64 ((wrap64 ((rd t145 2) * 2)) - 10000)) (wrap64 ((rd t145 0) - 5000)) (wrap64 ((wrap64 ((rd t145 0) - 5000)) + (rd t145 1)))).bind fun t151 => (if 3 < (t145.length : Int) then (if 4 < (t145.length : Int) then ((impl_Times255.f (Int.tmod (rd t145 3) 256) (Int.tmod (rd t145 4) 256)).bind fun t154 => (if t151 ≥ (wrap64 ((rd t145 0) - 5000)) then (if t151 ≤ (wrap64 ((wrap64 ((rd t145 0) - 5000)) + (rd t145 1))) then (if (wrap64 ((wrap64 ((rd t145 2) * 2)) - 10000)) < (wrap64 ((rd t145 0) - 5000)) then ((impl_Clamp.f t151 (wrap64 ((rd t145 0) - 5000)) (wrap64 ((wrap64 ((rd t145 0) - 5000)) + (rd t145 1)))).bind fun t155 => (if t155 = t151 then (if t154 ≤ (Int.tmod (rd t145 3) 256) then (if t154 ≤ (Int.tmod (rd t145 4) 256) then (if t154 ≥ 0 then ((impl_Times255.f (Int.tmod (rd t145 4) 256) (Int.tmod (rd t145 3) 256)).bind fun t156 => (if t154 = t156 then ((impl_Times255.f (Int.tmod (rd t145 3) 256) 255).bind fun t157 => (if t157 = (Int.tmod (rd t145 3) 256) then ((impl_Times255.f (Int.tmod (rd t145 3) 256) 0).bind fun t158 => (if t158 = 0 then ((spec_Times255.f (Int.tmod (rd t145 3) 256) (Int.tmod (rd t145 4) 256)).bind fun t159 => (some (t154 == t159))) else (some false))) else (some false))) else (some false))) else (some false)) else (some false)) else (some false)) else (some false))) else (if (wrap64 ((wrap64 ((rd t145 2) * 2)) - 10000)) > (wrap64 ((wrap64 ((rd t145 0) - 5000)) + (rd t145 1))) then ((impl_Clamp.f t151 (wrap64 ((rd t145 0) - 5000)) (wrap64 ((wrap64 ((rd t145 0) - 5000)) + (rd t145 1)))).bind fun t160 => (if t160 = t151 then (if t154 ≤ (Int.tmod (rd t145 3) 256) then (if t154 ≤ (Int.tmod (rd t145 4) 256) then (if t154 ≥ 0 then ((impl_Times255.f (Int.tmod (rd t145 4) 256) (Int.tmod (rd t145 3) 256)).bind fun t161 => (if t154 = t161 then ((impl_Times255.f (Int.tmod (rd t145 3) 256) 255).bind fun t162 => (if t162 = (Int.tmod (rd t145 3) 256) then ((impl_Times255.f (Int.tmod (rd t145 3) 256) 0).bind fun t163 => (if t163 = 0 then ((spec_Times255.f (Int.tmod (rd t145 3) 256) (Int.tmod (rd t145 4) 256)).bind fun t164 => (some (t154 == t164))) else (some false))) else (some false))) else (some false))) else (some false)) else (some false)) else (some false)) else (some false))) else (if t151 = (wrap64 ((wrap64 ((rd t145 2) * 2)) - 10000)) then ((impl_Clamp.f t151 (wrap64 ((rd t145 0) - 5000)) (wrap64 ((wrap64 ((rd t145 0) - 5000)) + (rd t145 1)))).bind fun t165 => (if t165 = t151 then (if t154 ≤ (Int.tmod (rd t145 3) 256) then (if t154 ≤ (Int.tmod (rd t145 4) 256) then (if t154 ≥ 0 then ((impl_Times255.f (Int.tmod (rd t145 4) 256) (Int.tmod (rd t145 3) 256)).bind fun t166 => (if t154 = t166 then ((impl_Times255.f (Int.tmod (rd t145 3) 256) 255).bind fun t167 => (if t167 = (Int.tmod (rd t145 3) 256) then ((impl_Times255.f (Int.tmod (rd t145 3) 256) 0).bind fun t168 => (if t168 = 0 then ((spec_Times255.f (Int.tmod (rd t145 3) 256) (Int.tmod (rd t145 4) 256)).bind fun t169 => (some (t154 == t169))) else (some false))) else (some false))) else (some false))) else (some false)) else (some false)) else (some false)) else (some false))) else (some false)))) else (some false)) else (some false))) else (none)) else (none))) else (none)) else (none)) else (none)) = some r := H
    have A4 := Aside0.mk A40
    clear A40
    by_cases c5 : 0 < (t145.length : Int)
    · rw [if_pos c5] at H
      have c5b0 : decide (0 < (t145.length : Int)) = true := decide_eq_true c5
      have c5b1 : decide (0 < t145.length) = true := decide_eq_true (by omega)
      clear c5
      by_cases c6 : 1 < (t145.length : Int)
      · rw [if_pos c6] at H
        have c6b0 : decide (1 < (t145.length : Int)) = true := decide_eq_true c6
        have c6b1 : decide (1 < t145.length) = true := decide_eq_true (by omega)
        clear c6
        by_cases c7 : 2 < (t145.length : Int)
        · rw [if_pos c7] at H
          have c7b0 : decide (2 < (t145.length : Int)) = true := decide_eq_true c7
          have c7b1 : decide (2 < t145.length) = true := decide_eq_true (by omega)
          clear c7
          replace H := Option.bind_eq_some_iff.mp H
          obtain ⟨t151, A80, H⟩ := H
          replace H : (if 3 < (t145.length : Int) then (if 4 < (t145.length : Int) then ((impl_Times255.f (Int.tmod (rd t145 3) 256) (Int.tmod (rd t145 4) 256)).bind fun t154 => (if t151 ≥ (wrap64 ((rd t145 0) - 5000)) then (if t151 ≤ (wrap64 ((wrap64 ((rd t145 0) - 5000)) + (rd t145 1))) then (if (wrap64 ((wrap64 ((rd t145 2) * 2)) - 10000)) < (wrap64 ((rd t145 0) - 5000)) then ((impl_Clamp.f t151 (wrap64 ((rd t145 0) - 5000)) (wrap64 ((wrap64 ((rd t145 0) - 5000)) + (rd t145 1)))).bind fun t155 => (if t155 = t151 then (if t154 ≤ (Int.tmod (rd t145 3) 256) then (if t154 ≤ (Int.tmod (rd t145 4) 256) then (if t154 ≥ 0 then ((impl_Times255.f (Int.tmod (rd t145 4) 256) (Int.tmod (rd t145 3) 256)).bind fun t156 => (if t154 = t156 then ((impl_Times255.f (Int.tmod (rd t145 3) 256) 255).bind fun t157 => (if t157 = (Int.tmod (rd t145 3) 256) then ((impl_Times255.f (Int.tmod (rd t145 3) 256) 0).bind fun t158 => (if t158 = 0 then ((spec_Times255.f (Int.tmod (rd t145 3) 256) (Int.tmod (rd t145 4) 256)).bind fun t159 => (some (t154 == t159))) else (some false))) else (some false))) else (some false))) else (some false)) else (some false)) else (some false)) else (some false))) else (if (wrap64 ((wrap64 ((rd t145 2) * 2)) - 10000)) > (wrap64 ((wrap64 ((rd t145 0) - 5000)) + (rd t145 1))) then ((impl_Clamp.f t151 (wrap64 ((rd t145 0) - 5000)) (wrap64 ((wrap64 ((rd t145 0) - 5000)) + (rd t145 1)))).bind fun t160 => (if t160 = t151 then (if t154 ≤ (Int.tmod (rd t145 3) 256) then (if t154 ≤ (Int.tmod (rd t145 4) 256) then (if t154 ≥ 0 then ((impl_Times255.f (Int.tmod (rd t145 4) 256) (Int.tmod (rd t145 3) 256)).bind fun t161 => (if t154 = t161 then ((impl_Times255.f (Int.tmod (rd t145 3) 256) 255).bind fun t162 => (if t162 = (Int.tmod (rd t145 3) 256) then ((impl_Times255.f (Int.tmod (rd t145 3) 256) 0).bind fun t163 => (if t163 = 0 then ((spec_Times255.f (Int.tmod (rd t145 3) 256) (Int.tmod (rd t145 4) 256)).bind fun t164 => (some (t154 == t164))) else (some false))) else (some false))) else (some false))) else (some false)) else (some false)) else (some false)) else (some false))) else (if t151 = (wrap64 ((wrap64 ((rd t145 2) * 2)) - 10000)) then ((impl_Clamp.f t151 (wrap64 ((rd t145 0) - 5000)) (wrap64 ((wrap64 ((rd t145 0) - 5000)) + (rd t145 1)))).bind fun t165 => (if t165 = t151 then (if t154 ≤ (Int.tmod (rd t145 3) 256) then (if t154 ≤ (Int.tmod (rd t145 4) 256) then (if t154 ≥ 0 then ((impl_Times255.f (Int.tmod (rd t145 4) 256) (Int.tmod (rd t145 3) 256)).bind fun t166 => (if t154 = t166 then ((impl_Times255.f (Int.tmod (rd t145 3) 256) 255).bind fun t167 => (if t167 = (Int.tmod (rd t145 3) 256) then ((impl_Times255.f (Int.tmod (rd t145 3) 256) 0).bind fun t168 => (if t168 = 0 then ((spec_Times255.f (Int.tmod (rd t145 3) 256) (Int.tmod (rd t145 4) 256)).bind fun t169 => (some (t154 == t169))) else (some false))) else (some false))) else (some false))) else (some false)) else (some false)) else (some false)) else (some false))) else (some false)))) else (some false)) else (some false))) else (none)) else (none)) = some r := H
          have A8 := Aside0.mk A80
          clear A80
          by_cases c9 : 3 < (t145.length : Int)
          · rw [if_pos c9] at H
            have c9b0 : decide (3 < (t145.length : Int)) = true := decide_eq_true c9
            have c9b1 : decide (3 < t145.length) = true := decide_eq_true (by omega)
            clear c9
            by_cases c10 : 4 < (t145.length : Int)
            · rw [if_pos c10] at H
              have c10b0 : decide (4 < (t145.length : Int)) = true := decide_eq_true c10
              have c10b1 : decide (4 < t145.length) = true := decide_eq_true (by omega)
              clear c10
              replace H := Option.bind_eq_some_iff.mp H
              obtain ⟨t154, A110, H⟩ := H
              replace H : (if t151 ≥ (wrap64 ((rd t145 0) - 5000)) then (if t151 ≤ (wrap64 ((wrap64 ((rd t145 0) - 5000)) + (rd t145 1))) then (if (wrap64 ((wrap64 ((rd t145 2) * 2)) - 10000)) < (wrap64 ((rd t145 0) - 5000)) then ((impl_Clamp.f t151 (wrap64 ((rd t145 0) - 5000)) (wrap64 ((wrap64 ((rd t145 0) - 5000)) + (rd t145 1)))).bind fun t155 => (if t155 = t151 then (if t154 ≤ (Int.tmod (rd t145 3) 256) then (if t154 ≤ (Int.tmod (rd t145 4) 256) then (if t154 ≥ 0 then ((impl_Times255.f (Int.tmod (rd t145 4) 256) (Int.tmod (rd t145 3) 256)).bind fun t156 => (if t154 = t156 then ((impl_Times255.f (Int.tmod (rd t145 3) 256) 255).bind fun t157 => (if t157 = (Int.tmod (rd t145 3) 256) then ((impl_Times255.f (Int.tmod (rd t145 3) 256) 0).bind fun t158 => (if t158 = 0 then ((spec_Times255.f (Int.tmod (rd t145 3) 256) (Int.tmod (rd t145 4) 256)).bind fun t159 => (some (t154 == t159))) else (some false))) else (some false))) else (some false))) else (some false)) else (some false)) else (some false)) else (some false))) else (if (wrap64 ((wrap64 ((rd t145 2) * 2)) - 10000)) > (wrap64 ((wrap64 ((rd t145 0) - 5000)) + (rd t145 1))) then ((impl_Clamp.f t151 (wrap64 ((rd t145 0) - 5000)) (wrap64 ((wrap64 ((rd t145 0) - 5000)) + (rd t145 1)))).bind fun t160 => (if t160 = t151 then (if t154 ≤ (Int.tmod (rd t145 3) 256) then (if t154 ≤ (Int.tmod (rd t145 4) 256) then (if t154 ≥ 0 then ((impl_Times255.f (Int.tmod (rd t145 4) 256) (Int.tmod (rd t145 3) 256)).bind fun t161 => (if t154 = t161 then ((impl_Times255.f (Int.tmod (rd t145 3) 256) 255).bind fun t162 => (if t162 = (Int.tmod (rd t145 3) 256) then ((impl_Times255.f (Int.tmod (rd t145 3) 256) 0).bind fun t163 => (if t163 = 0 then ((spec_Times255.f (Int.tmod (rd t145 3) 256) (Int.tmod (rd t145 4) 256)).bind fun t164 => (some (t154 == t164))) else (some false))) else (some false))) else (some false))) else (some false)) else (some false)) else (some false)) else (some false))) else (if t151 = (wrap64 ((wrap64 ((rd t145 2) * 2)) - 10000)) then ((impl_Clamp.f t151 (wrap64 ((rd t145 0) - 5000)) (wrap64 ((wrap64 ((rd t145 0) - 5000)) + (rd t145 1)))).bind fun t165 => (if t165 = t151 then (if t154 ≤ (Int.tmod (rd t145 3) 256) then (if t154 ≤ (Int.tmod (rd t145 4) 256) then (if t154 ≥ 0 then ((impl_Times255.f (Int.tmod (rd t145 4) 256) (Int.tmod (rd t145 3) 256)).bind fun t166 => (if t154 = t166 then ((impl_Times255.f (Int.tmod (rd t145 3) 256) 255).bind fun t167 => (if t167 = (Int.tmod (rd t145 3) 256) then ((impl_Times255.f (Int.tmod (rd t145 3) 256) 0).bind fun t168 => (if t168 = 0 then ((spec_Times255.f (Int.tmod (rd t145 3) 256) (Int.tmod (rd t145 4) 256)).bind fun t169 => (some (t154 == t169))) else (some false))) else (some false))) else (some false))) else (some false)) else (some false)) else (some false)) else (some false))) else (some false)))) else (some false)) else (some false)) = some r := H
              have A11 := Aside0.mk A110
              clear A110
              by_cases c12 : t151 ≥ (wrap64 ((rd t145 0) - 5000))
              · rw [if_pos c12] at H
                have c12b0 : decide ((wrap64 ((rd t145 0) - 5000)) ≤ t151) = true := decide_eq_true c12
                clear c12
                by_cases c13 : t151 ≤ (wrap64 ((wrap64 ((rd t145 0) - 5000)) + (rd t145 1)))
                · rw [if_pos c13] at H
                  have c13b0 : decide (t151 ≤ (wrap64 ((wrap64 ((rd t145 0) - 5000)) + (rd t145 1)))) = true := decide_eq_true c13
                  clear c13
                  by_cases c14 : (wrap64 ((wrap64 ((rd t145 2) * 2)) - 10000)) < (wrap64 ((rd t145 0) - 5000))
                  · rw [if_pos c14] at H
                    have c14b0 : decide ((wrap64 ((wrap64 ((rd t145 2) * 2)) - 10000)) < (wrap64 ((rd t145 0) - 5000))) = true := decide_eq_true c14
                    clear c14
                    replace H := Option.bind_eq_some_iff.mp H
                    obtain ⟨t155, A150, H⟩ := H
                    replace H : (if t155 = t151 then (if t154 ≤ (Int.tmod (rd t145 3) 256) then (if t154 ≤ (Int.tmod (rd t145 4) 256) then (if t154 ≥ 0 then ((impl_Times255.f (Int.tmod (rd t145 4) 256) (Int.tmod (rd t145 3) 256)).bind fun t156 => (if t154 = t156 then ((impl_Times255.f (Int.tmod (rd t145 3) 256) 255).bind fun t157 => (if t157 = (Int.tmod (rd t145 3) 256) then ((impl_Times255.f (Int.tmod (rd t145 3) 256) 0).bind fun t158 => (if t158 = 0 then ((spec_Times255.f (Int.tmod (rd t145 3) 256) (Int.tmod (rd t145 4) 256)).bind fun t159 => (some (t154 == t159))) else (some false))) else (some false))) else (some false))) else (some false)) else (some false)) else (some false)) else (some false)) = some r := H
                    have A15 := Aside0.mk A150
                    clear A150
                    by_cases c16 : t155 = t151
                    · rw [if_pos c16] at H
                      have c16b0 : (t155 == t151) = true := beq_iff_eq.mpr c16
                      have c16b1 : (t155 != t151) = false := bne_eq_false_iff_eq.mpr c16
                      clear c16
                      by_cases c17 : t154 ≤ (Int.tmod (rd t145 3) 256)
                      · rw [if_pos c17] at H
                        have c17b0 : decide (t154 ≤ (Int.tmod (rd t145 3) 256)) = true := decide_eq_true c17
                        clear c17
                        by_cases c18 : t154 ≤ (Int.tmod (rd t145 4) 256)
                        · rw [if_pos c18] at H
                          have c18b0 : decide (t154 ≤ (Int.tmod (rd t145 4) 256)) = true := decide_eq_true c18
                          clear c18
                          by_cases c19 : t154 ≥ 0
                          · rw [if_pos c19] at H
                            have c19b0 : decide (0 ≤ t154) = true := decide_eq_true c19
                            clear c19
                            replace H := Option.bind_eq_some_iff.mp H
                            obtain ⟨t156, A200, H⟩ := H
                            replace H : (if t154 = t156 then ((impl_Times255.f (Int.tmod (rd t145 3) 256) 255).bind fun t157 => (if t157 = (Int.tmod (rd t145 3) 256) then ((impl_Times255.f (Int.tmod (rd t145 3) 256) 0).bind fun t158 => (if t158 = 0 then ((spec_Times255.f (Int.tmod (rd t145 3) 256) (Int.tmod (rd t145 4) 256)).bind fun t159 => (some (t154 == t159))) else (some false))) else (some false))) else (some false)) = some r := H
                            have A20 := Aside0.mk A200
                            clear A200
                            by_cases c21 : t154 = t156
                            · rw [if_pos c21] at H
                              have c21b0 : (t154 == t156) = true := beq_iff_eq.mpr c21
                              have c21b1 : (t154 != t156) = false := bne_eq_false_iff_eq.mpr c21
                              clear c21
                              replace H := Option.bind_eq_some_iff.mp H
                              obtain ⟨t157, A220, H⟩ := H
                              replace H : (if t157 = (Int.tmod (rd t145 3) 256) then ((impl_Times255.f (Int.tmod (rd t145 3) 256) 0).bind fun t158 => (if t158 = 0 then ((spec_Times255.f (Int.tmod (rd t145 3) 256) (Int.tmod (rd t145 4) 256)).bind fun t159 => (some (t154 == t159))) else (some false))) else (some false)) = some r := H
                              have A22 := Aside0.mk A220
                              clear A220
                              by_cases c23 : t157 = (Int.tmod (rd t145 3) 256)
                              · rw [if_pos c23] at H
                                have c23b0 : (t157 == (Int.tmod (rd t145 3) 256)) = true := beq_iff_eq.mpr c23
                                have c23b1 : (t157 != (Int.tmod (rd t145 3) 256)) = false := bne_eq_false_iff_eq.mpr c23
                                clear c23
                                replace H := Option.bind_eq_some_iff.mp H
                                obtain ⟨t158, A240, H⟩ := H
                                replace H : (if t158 = 0 then ((spec_Times255.f (Int.tmod (rd t145 3) 256) (Int.tmod (rd t145 4) 256)).bind fun t159 => (some (t154 == t159))) else (some false)) = some r := H
                                have A24 := Aside0.mk A240
                                clear A240
                                by_cases c25 : t158 = 0
                                · rw [if_pos c25] at H
                                  have c25b0 : (t158 == 0) = true := beq_iff_eq.mpr c25
                                  have c25b1 : (t158 != 0) = false := bne_eq_false_iff_eq.mpr c25
                                  clear c25
                                  replace H := Option.bind_eq_some_iff.mp H
                                  obtain ⟨t159, A260, H⟩ := H
                                  replace H : (some (t154 == t159)) = some r := H
                                  have A26 := Aside0.mk A260
                                  clear A260
                                  obtain rfl := Option.some.inj H
                                  go_enter Try.func13, Try.ntmps13
                                  go_wp2_with (first | ((with_reducible refine gate_callee (f := 33) rfl ?_); refine goesL_ (some 12) rfl rfl Try.func33 (by kernel_rfl) rfl #[.slice A0 l0.length c0] rfl (by (try simp only [List.map_toArray, List.map_cons, List.map_nil]); first | done | rfl | (simp only [List.length_drop, List.length_take]; rfl)) ?_; (with_reducible refine (laws_big.calls _ _ l0 false _ ?side1 ?side2 A2.out).mono ?_); (case side1 => repeat (first | exact HR0.out | (with_reducible refine Kd.C_alloc ?_ _) | (with_reducible refine Kd.C_drewN ?_ _) | (with_reducible refine Kd.C_drew ?_))); (case side2 => exact HC0.out); rintro e w' ⟨rfl, ⟨nd, rfl⟩⟩; refine ⟨_, rfl, ?_⟩) | ((with_reducible refine gate_callee (f := 34) rfl ?_); refine goesL_ (some 14) rfl rfl Try.func34 (by kernel_rfl) rfl #[.slice A0 l0.length c0] rfl (by (try simp only [List.map_toArray, List.map_cons, List.map_nil]); first | done | rfl | (simp only [List.length_drop, List.length_take]; rfl)) ?_; (with_reducible refine (spec_DrawPlaces.calls k _ _ l0 t145 _ ?side1 ?side2 A4.out).mono ?_); (case side1 => repeat (first | exact HR0.out | (with_reducible refine Kd.C_alloc ?_ _) | (with_reducible refine Kd.C_drewN ?_ _) | (with_reducible refine Kd.C_drew ?_))); (case side2 => exact HC0.out); rintro e w27 ⟨v146, rfl, ho0, hb⟩; refine ⟨_, rfl, ?_⟩; have n0_ := Aside0.mk (Kd.R_lower ho0 (below_size (by repeat (first | (with_reducible first | exact HB.out | apply below_alloc | apply pw_below_drewN | apply below_drew1) | exact HB.out)))); have n1_ := Aside0.mk (below_step (by repeat (first | (with_reducible first | exact HB.out | apply below_alloc | apply pw_below_drewN | apply below_drew1) | exact HB.out)) hb); clear HB; have HO147 := n0_; have HB := n1_; clear n0_ n1_; (try clear hb); (try clear hb2); (try clear hk); (try clear hi); (try clear ho0); obtain ⟨Ao28, co28, eo28⟩ := Kd.R_slice HO147.out; subst eo28; have p148 : 0 ≤ (0 : Int) := (by omega); have q148 : 0 < (t145.length : Int) := of_decide_eq_true (by first | (with_reducible assumption) | assumption); obtain ⟨ad148, e148, hx148_0⟩ := Kd.at_int (Kd.R_reads' HO147.out).2.2 0 p148 q148; cases e148; have qi148 : (0 < t145.length) = True := eq_true (by omega); (try rw [show ((0 : Int)).toNat = 0 from rfl] at hx148_0); (try rw [Addr.add_zero'] at hx148_0); replace p148 := eq_true p148; replace q148 := eq_true q148; have p149 : 0 ≤ (1 : Int) := (by omega); have q149 : 1 < (t145.length : Int) := of_decide_eq_true (by first | (with_reducible assumption) | assumption); obtain ⟨ad149, e149, hx149_0⟩ := Kd.at_int (Kd.R_reads' HO147.out).2.2 1 p149 q149; obtain rfl : ad148 = ad149 := (by injection e149); (try simp only [show (1 : Int).toNat = 1 from rfl, Nat.reduceMul, Nat.reduceEqDiff, Go.Addr.add, ↓reduceIte] at hx149_0); have qi149 : (1 < t145.length) = True := eq_true (by omega); (try rw [show ((1 : Int)).toNat = 1 from rfl] at hx149_0); replace p149 := eq_true p149; replace q149 := eq_true q149; have p150 : 0 ≤ (2 : Int) := (by omega); have q150 : 2 < (t145.length : Int) := of_decide_eq_true (by first | (with_reducible assumption) | assumption); obtain ⟨ad150, e150, hx150_0⟩ := Kd.at_int (Kd.R_reads' HO147.out).2.2 2 p150 q150; obtain rfl : ad148 = ad150 := (by injection e150); (try simp only [show (2 : Int).toNat = 2 from rfl, Nat.reduceMul, Nat.reduceEqDiff, Go.Addr.add, ↓reduceIte] at hx150_0); have qi150 : (2 < t145.length) = True := eq_true (by omega); (try rw [show ((2 : Int)).toNat = 2 from rfl] at hx150_0); replace p150 := eq_true p150; replace q150 := eq_true q150) | ((with_reducible refine gate_callee (f := 43) rfl ?_); refine goesL_ (some 32) rfl rfl Try.func43 (by kernel_rfl) rfl #[.int .i64 (wrap64 ((wrap64 ((rd t145 2) * 2)) - 10000)), .int .i64 (wrap64 ((rd t145 0) - 5000)), .int .i64 (wrap64 ((wrap64 ((rd t145 0) - 5000)) + (rd t145 1)))] rfl (by (try simp only [List.map_toArray, List.map_cons, List.map_nil]); first | done | rfl | (simp only [List.length_drop, List.length_take]; rfl)) ?_; (with_reducible refine (impl_Clamp.calls (wrap64 ((wrap64 ((rd t145 2) * 2)) - 10000)) (wrap64 ((rd t145 0) - 5000)) (wrap64 ((wrap64 ((rd t145 0) - 5000)) + (rd t145 1))) t151 _ A8.out).mono ?_); rintro e w' ⟨rfl, ⟨nd, rfl⟩⟩; refine ⟨_, rfl, ?_⟩; have p152 : 0 ≤ (3 : Int) := (by omega); have q152 : 3 < (t145.length : Int) := of_decide_eq_true (by first | (with_reducible assumption) | assumption); obtain ⟨ad152, e152, hx152_0⟩ := Kd.at_int (Kd.R_reads' HO147.out).2.2 3 p152 q152; obtain rfl : ad148 = ad152 := (by injection e152); (try simp only [show (3 : Int).toNat = 3 from rfl, Nat.reduceMul, Nat.reduceEqDiff, Go.Addr.add, ↓reduceIte] at hx152_0); have qi152 : (3 < t145.length) = True := eq_true (by omega); (try rw [show ((3 : Int)).toNat = 3 from rfl] at hx152_0); replace p152 := eq_true p152; replace q152 := eq_true q152; have p153 : 0 ≤ (4 : Int) := (by omega); have q153 : 4 < (t145.length : Int) := of_decide_eq_true (by first | (with_reducible assumption) | assumption); obtain ⟨ad153, e153, hx153_0⟩ := Kd.at_int (Kd.R_reads' HO147.out).2.2 4 p153 q153; obtain rfl : ad148 = ad153 := (by injection e153); (try simp only [show (4 : Int).toNat = 4 from rfl, Nat.reduceMul, Nat.reduceEqDiff, Go.Addr.add, ↓reduceIte] at hx153_0); have qi153 : (4 < t145.length) = True := eq_true (by omega); (try rw [show ((4 : Int)).toNat = 4 from rfl] at hx153_0); replace p153 := eq_true p153; replace q153 := eq_true q153) | ((with_reducible refine gate_callee (f := 30) rfl ?_); refine goesL_ (some 43) rfl rfl Try.func30 (by kernel_rfl) rfl #[.int .i64 (Int.tmod (rd t145 3) 256), .int .i64 (Int.tmod (rd t145 4) 256)] rfl (by (try simp only [List.map_toArray, List.map_cons, List.map_nil]); first | done | rfl | (simp only [List.length_drop, List.length_take]; rfl)) ?_; (with_reducible refine (impl_Times255.calls (Int.tmod (rd t145 3) 256) (Int.tmod (rd t145 4) 256) t154 _ A11.out).mono ?_); rintro e w' ⟨rfl, ⟨nd, rfl⟩⟩; refine ⟨_, rfl, ?_⟩) | (go_at_call 43; (with_reducible refine (impl_Clamp.calls t151 (wrap64 ((rd t145 0) - 5000)) (wrap64 ((wrap64 ((rd t145 0) - 5000)) + (rd t145 1))) t155 _ A15.out).mono ?_); rintro e w' ⟨rfl, ⟨nd, rfl⟩⟩) | (go_at_call 30; (with_reducible refine (impl_Times255.calls (Int.tmod (rd t145 4) 256) (Int.tmod (rd t145 3) 256) t156 _ A20.out).mono ?_); rintro e w' ⟨rfl, ⟨nd, rfl⟩⟩) | (go_at_call 30; (with_reducible refine (impl_Times255.calls (Int.tmod (rd t145 3) 256) 255 t157 _ A22.out).mono ?_); rintro e w' ⟨rfl, ⟨nd, rfl⟩⟩) | (go_at_call 30; (with_reducible refine (impl_Times255.calls (Int.tmod (rd t145 3) 256) 0 t158 _ A24.out).mono ?_); rintro e w' ⟨rfl, ⟨nd, rfl⟩⟩) | (go_at_call 29; (with_reducible refine (spec_Times255.calls (Int.tmod (rd t145 3) 256) (Int.tmod (rd t145 4) 256) t159 _ A26.out).mono ?_); rintro e w' ⟨rfl, ⟨nd, rfl⟩⟩))
                                  go_ret
                                  exact ⟨by first | rfl | (simp [errW_none, errW_some] <;> rfl) | (simp [*, errW_none, errW_some] <;> rfl), by repeat (first | (with_reducible first | exact HB.out | apply below_alloc | apply pw_below_drewN | apply below_drew1) | exact HB.out)⟩
                                · rw [if_neg c25] at H
                                  have c25b0 : (t158 == 0) = false := beq_eq_false_iff_ne.mpr c25
                                  have c25b1 : (t158 != 0) = true := bne_iff_ne.mpr c25
                                  obtain rfl := Option.some.inj H
                                  exact absurd hr_ (by decide)
                              · rw [if_neg c23] at H
                                have c23b0 : (t157 == (Int.tmod (rd t145 3) 256)) = false := beq_eq_false_iff_ne.mpr c23
                                have c23b1 : (t157 != (Int.tmod (rd t145 3) 256)) = true := bne_iff_ne.mpr c23
                                obtain rfl := Option.some.inj H
                                exact absurd hr_ (by decide)
                            · rw [if_neg c21] at H
                              have c21b0 : (t154 == t156) = false := beq_eq_false_iff_ne.mpr c21
                              have c21b1 : (t154 != t156) = true := bne_iff_ne.mpr c21
                              obtain rfl := Option.some.inj H
                              exact absurd hr_ (by decide)
                          · rw [if_neg c19] at H
                            have c19b0 : decide (0 ≤ t154) = false := decide_eq_false c19
                            clear c19
                            obtain rfl := Option.some.inj H
                            exact absurd hr_ (by decide)
                        · rw [if_neg c18] at H
                          have c18b0 : decide (t154 ≤ (Int.tmod (rd t145 4) 256)) = false := decide_eq_false c18
                          clear c18
                          obtain rfl := Option.some.inj H
                          exact absurd hr_ (by decide)
                      · rw [if_neg c17] at H
                        have c17b0 : decide (t154 ≤ (Int.tmod (rd t145 3) 256)) = false := decide_eq_false c17
                        clear c17
                        obtain rfl := Option.some.inj H
                        exact absurd hr_ (by decide)
                    · rw [if_neg c16] at H
                      have c16b0 : (t155 == t151) = false := beq_eq_false_iff_ne.mpr c16
                      have c16b1 : (t155 != t151) = true := bne_iff_ne.mpr c16
                      obtain rfl := Option.some.inj H
                      exact absurd hr_ (by decide)
                  · rw [if_neg c14] at H
                    have c14b0 : decide ((wrap64 ((wrap64 ((rd t145 2) * 2)) - 10000)) < (wrap64 ((rd t145 0) - 5000))) = false := decide_eq_false c14
                    clear c14
                    by_cases c43 : (wrap64 ((wrap64 ((rd t145 2) * 2)) - 10000)) > (wrap64 ((wrap64 ((rd t145 0) - 5000)) + (rd t145 1)))
                    · rw [if_pos c43] at H
                      have c43b0 : decide ((wrap64 ((wrap64 ((rd t145 0) - 5000)) + (rd t145 1))) < (wrap64 ((wrap64 ((rd t145 2) * 2)) - 10000))) = true := decide_eq_true c43
                      clear c43
                      replace H := Option.bind_eq_some_iff.mp H
                      obtain ⟨t160, A440, H⟩ := H
                      replace H : (if t160 = t151 then (if t154 ≤ (Int.tmod (rd t145 3) 256) then (if t154 ≤ (Int.tmod (rd t145 4) 256) then (if t154 ≥ 0 then ((impl_Times255.f (Int.tmod (rd t145 4) 256) (Int.tmod (rd t145 3) 256)).bind fun t161 => (if t154 = t161 then ((impl_Times255.f (Int.tmod (rd t145 3) 256) 255).bind fun t162 => (if t162 = (Int.tmod (rd t145 3) 256) then ((impl_Times255.f (Int.tmod (rd t145 3) 256) 0).bind fun t163 => (if t163 = 0 then ((spec_Times255.f (Int.tmod (rd t145 3) 256) (Int.tmod (rd t145 4) 256)).bind fun t164 => (some (t154 == t164))) else (some false))) else (some false))) else (some false))) else (some false)) else (some false)) else (some false)) else (some false)) = some r := H
                      have A44 := Aside0.mk A440
                      clear A440
                      by_cases c45 : t160 = t151
                      · rw [if_pos c45] at H
                        have c45b0 : (t160 == t151) = true := beq_iff_eq.mpr c45
                        have c45b1 : (t160 != t151) = false := bne_eq_false_iff_eq.mpr c45
                        clear c45
                        by_cases c46 : t154 ≤ (Int.tmod (rd t145 3) 256)
                        · rw [if_pos c46] at H
                          have c46b0 : decide (t154 ≤ (Int.tmod (rd t145 3) 256)) = true := decide_eq_true c46
                          clear c46
                          by_cases c47 : t154 ≤ (Int.tmod (rd t145 4) 256)
                          · rw [if_pos c47] at H
                            have c47b0 : decide (t154 ≤ (Int.tmod (rd t145 4) 256)) = true := decide_eq_true c47
                            clear c47
                            by_cases c48 : t154 ≥ 0
                            · rw [if_pos c48] at H
                              have c48b0 : decide (0 ≤ t154) = true := decide_eq_true c48
                              clear c48
                              replace H := Option.bind_eq_some_iff.mp H
                              obtain ⟨t161, A490, H⟩ := H
                              replace H : (if t154 = t161 then ((impl_Times255.f (Int.tmod (rd t145 3) 256) 255).bind fun t162 => (if t162 = (Int.tmod (rd t145 3) 256) then ((impl_Times255.f (Int.tmod (rd t145 3) 256) 0).bind fun t163 => (if t163 = 0 then ((spec_Times255.f (Int.tmod (rd t145 3) 256) (Int.tmod (rd t145 4) 256)).bind fun t164 => (some (t154 == t164))) else (some false))) else (some false))) else (some false)) = some r := H
                              have A49 := Aside0.mk A490
                              clear A490
                              by_cases c50 : t154 = t161
                              · rw [if_pos c50] at H
                                have c50b0 : (t154 == t161) = true := beq_iff_eq.mpr c50
                                have c50b1 : (t154 != t161) = false := bne_eq_false_iff_eq.mpr c50
                                clear c50
                                replace H := Option.bind_eq_some_iff.mp H
                                obtain ⟨t162, A510, H⟩ := H
                                replace H : (if t162 = (Int.tmod (rd t145 3) 256) then ((impl_Times255.f (Int.tmod (rd t145 3) 256) 0).bind fun t163 => (if t163 = 0 then ((spec_Times255.f (Int.tmod (rd t145 3) 256) (Int.tmod (rd t145 4) 256)).bind fun t164 => (some (t154 == t164))) else (some false))) else (some false)) = some r := H
                                have A51 := Aside0.mk A510
                                clear A510
                                by_cases c52 : t162 = (Int.tmod (rd t145 3) 256)
                                · rw [if_pos c52] at H
                                  have c52b0 : (t162 == (Int.tmod (rd t145 3) 256)) = true := beq_iff_eq.mpr c52
                                  have c52b1 : (t162 != (Int.tmod (rd t145 3) 256)) = false := bne_eq_false_iff_eq.mpr c52
                                  clear c52
                                  replace H := Option.bind_eq_some_iff.mp H
                                  obtain ⟨t163, A530, H⟩ := H
                                  replace H : (if t163 = 0 then ((spec_Times255.f (Int.tmod (rd t145 3) 256) (Int.tmod (rd t145 4) 256)).bind fun t164 => (some (t154 == t164))) else (some false)) = some r := H
                                  have A53 := Aside0.mk A530
                                  clear A530
                                  by_cases c54 : t163 = 0
                                  · rw [if_pos c54] at H
                                    have c54b0 : (t163 == 0) = true := beq_iff_eq.mpr c54
                                    have c54b1 : (t163 != 0) = false := bne_eq_false_iff_eq.mpr c54
                                    clear c54
                                    replace H := Option.bind_eq_some_iff.mp H
                                    obtain ⟨t164, A550, H⟩ := H
                                    replace H : (some (t154 == t164)) = some r := H
                                    have A55 := Aside0.mk A550
                                    clear A550
                                    obtain rfl := Option.some.inj H
                                    go_enter Try.func13, Try.ntmps13
                                    go_wp2_with (first | ((with_reducible refine gate_callee (f := 33) rfl ?_); refine goesL_ (some 12) rfl rfl Try.func33 (by kernel_rfl) rfl #[.slice A0 l0.length c0] rfl (by (try simp only [List.map_toArray, List.map_cons, List.map_nil]); first | done | rfl | (simp only [List.length_drop, List.length_take]; rfl)) ?_; (with_reducible refine (laws_big.calls _ _ l0 false _ ?side1 ?side2 A2.out).mono ?_); (case side1 => repeat (first | exact HR0.out | (with_reducible refine Kd.C_alloc ?_ _) | (with_reducible refine Kd.C_drewN ?_ _) | (with_reducible refine Kd.C_drew ?_))); (case side2 => exact HC0.out); rintro e w' ⟨rfl, ⟨nd, rfl⟩⟩; refine ⟨_, rfl, ?_⟩) | ((with_reducible refine gate_callee (f := 34) rfl ?_); refine goesL_ (some 14) rfl rfl Try.func34 (by kernel_rfl) rfl #[.slice A0 l0.length c0] rfl (by (try simp only [List.map_toArray, List.map_cons, List.map_nil]); first | done | rfl | (simp only [List.length_drop, List.length_take]; rfl)) ?_; (with_reducible refine (spec_DrawPlaces.calls k _ _ l0 t145 _ ?side1 ?side2 A4.out).mono ?_); (case side1 => repeat (first | exact HR0.out | (with_reducible refine Kd.C_alloc ?_ _) | (with_reducible refine Kd.C_drewN ?_ _) | (with_reducible refine Kd.C_drew ?_))); (case side2 => exact HC0.out); rintro e w56 ⟨v146, rfl, ho0, hb⟩; refine ⟨_, rfl, ?_⟩; have n0_ := Aside0.mk (Kd.R_lower ho0 (below_size (by repeat (first | (with_reducible first | exact HB.out | apply below_alloc | apply pw_below_drewN | apply below_drew1) | exact HB.out)))); have n1_ := Aside0.mk (below_step (by repeat (first | (with_reducible first | exact HB.out | apply below_alloc | apply pw_below_drewN | apply below_drew1) | exact HB.out)) hb); clear HB; have HO147 := n0_; have HB := n1_; clear n0_ n1_; (try clear hb); (try clear hb2); (try clear hk); (try clear hi); (try clear ho0); obtain ⟨Ao57, co57, eo57⟩ := Kd.R_slice HO147.out; subst eo57; have p148 : 0 ≤ (0 : Int) := (by omega); have q148 : 0 < (t145.length : Int) := of_decide_eq_true (by first | (with_reducible assumption) | assumption); obtain ⟨ad148, e148, hx148_0⟩ := Kd.at_int (Kd.R_reads' HO147.out).2.2 0 p148 q148; cases e148; have qi148 : (0 < t145.length) = True := eq_true (by omega); (try rw [show ((0 : Int)).toNat = 0 from rfl] at hx148_0); (try rw [Addr.add_zero'] at hx148_0); replace p148 := eq_true p148; replace q148 := eq_true q148; have p149 : 0 ≤ (1 : Int) := (by omega); have q149 : 1 < (t145.length : Int) := of_decide_eq_true (by first | (with_reducible assumption) | assumption); obtain ⟨ad149, e149, hx149_0⟩ := Kd.at_int (Kd.R_reads' HO147.out).2.2 1 p149 q149; obtain rfl : ad148 = ad149 := (by injection e149); (try simp only [show (1 : Int).toNat = 1 from rfl, Nat.reduceMul, Nat.reduceEqDiff, Go.Addr.add, ↓reduceIte] at hx149_0); have qi149 : (1 < t145.length) = True := eq_true (by omega); (try rw [show ((1 : Int)).toNat = 1 from rfl] at hx149_0); replace p149 := eq_true p149; replace q149 := eq_true q149; have p150 : 0 ≤ (2 : Int) := (by omega); have q150 : 2 < (t145.length : Int) := of_decide_eq_true (by first | (with_reducible assumption) | assumption); obtain ⟨ad150, e150, hx150_0⟩ := Kd.at_int (Kd.R_reads' HO147.out).2.2 2 p150 q150; obtain rfl : ad148 = ad150 := (by injection e150); (try simp only [show (2 : Int).toNat = 2 from rfl, Nat.reduceMul, Nat.reduceEqDiff, Go.Addr.add, ↓reduceIte] at hx150_0); have qi150 : (2 < t145.length) = True := eq_true (by omega); (try rw [show ((2 : Int)).toNat = 2 from rfl] at hx150_0); replace p150 := eq_true p150; replace q150 := eq_true q150) | ((with_reducible refine gate_callee (f := 43) rfl ?_); refine goesL_ (some 32) rfl rfl Try.func43 (by kernel_rfl) rfl #[.int .i64 (wrap64 ((wrap64 ((rd t145 2) * 2)) - 10000)), .int .i64 (wrap64 ((rd t145 0) - 5000)), .int .i64 (wrap64 ((wrap64 ((rd t145 0) - 5000)) + (rd t145 1)))] rfl (by (try simp only [List.map_toArray, List.map_cons, List.map_nil]); first | done | rfl | (simp only [List.length_drop, List.length_take]; rfl)) ?_; (with_reducible refine (impl_Clamp.calls (wrap64 ((wrap64 ((rd t145 2) * 2)) - 10000)) (wrap64 ((rd t145 0) - 5000)) (wrap64 ((wrap64 ((rd t145 0) - 5000)) + (rd t145 1))) t151 _ A8.out).mono ?_); rintro e w' ⟨rfl, ⟨nd, rfl⟩⟩; refine ⟨_, rfl, ?_⟩; have p152 : 0 ≤ (3 : Int) := (by omega); have q152 : 3 < (t145.length : Int) := of_decide_eq_true (by first | (with_reducible assumption) | assumption); obtain ⟨ad152, e152, hx152_0⟩ := Kd.at_int (Kd.R_reads' HO147.out).2.2 3 p152 q152; obtain rfl : ad148 = ad152 := (by injection e152); (try simp only [show (3 : Int).toNat = 3 from rfl, Nat.reduceMul, Nat.reduceEqDiff, Go.Addr.add, ↓reduceIte] at hx152_0); have qi152 : (3 < t145.length) = True := eq_true (by omega); (try rw [show ((3 : Int)).toNat = 3 from rfl] at hx152_0); replace p152 := eq_true p152; replace q152 := eq_true q152; have p153 : 0 ≤ (4 : Int) := (by omega); have q153 : 4 < (t145.length : Int) := of_decide_eq_true (by first | (with_reducible assumption) | assumption); obtain ⟨ad153, e153, hx153_0⟩ := Kd.at_int (Kd.R_reads' HO147.out).2.2 4 p153 q153; obtain rfl : ad148 = ad153 := (by injection e153); (try simp only [show (4 : Int).toNat = 4 from rfl, Nat.reduceMul, Nat.reduceEqDiff, Go.Addr.add, ↓reduceIte] at hx153_0); have qi153 : (4 < t145.length) = True := eq_true (by omega); (try rw [show ((4 : Int)).toNat = 4 from rfl] at hx153_0); replace p153 := eq_true p153; replace q153 := eq_true q153) | ((with_reducible refine gate_callee (f := 30) rfl ?_); refine goesL_ (some 43) rfl rfl Try.func30 (by kernel_rfl) rfl #[.int .i64 (Int.tmod (rd t145 3) 256), .int .i64 (Int.tmod (rd t145 4) 256)] rfl (by (try simp only [List.map_toArray, List.map_cons, List.map_nil]); first | done | rfl | (simp only [List.length_drop, List.length_take]; rfl)) ?_; (with_reducible refine (impl_Times255.calls (Int.tmod (rd t145 3) 256) (Int.tmod (rd t145 4) 256) t154 _ A11.out).mono ?_); rintro e w' ⟨rfl, ⟨nd, rfl⟩⟩; refine ⟨_, rfl, ?_⟩) | (go_at_call 43; (with_reducible refine (impl_Clamp.calls t151 (wrap64 ((rd t145 0) - 5000)) (wrap64 ((wrap64 ((rd t145 0) - 5000)) + (rd t145 1))) t160 _ A44.out).mono ?_); rintro e w' ⟨rfl, ⟨nd, rfl⟩⟩) | (go_at_call 30; (with_reducible refine (impl_Times255.calls (Int.tmod (rd t145 4) 256) (Int.tmod (rd t145 3) 256) t161 _ A49.out).mono ?_); rintro e w' ⟨rfl, ⟨nd, rfl⟩⟩) | (go_at_call 30; (with_reducible refine (impl_Times255.calls (Int.tmod (rd t145 3) 256) 255 t162 _ A51.out).mono ?_); rintro e w' ⟨rfl, ⟨nd, rfl⟩⟩) | (go_at_call 30; (with_reducible refine (impl_Times255.calls (Int.tmod (rd t145 3) 256) 0 t163 _ A53.out).mono ?_); rintro e w' ⟨rfl, ⟨nd, rfl⟩⟩) | (go_at_call 29; (with_reducible refine (spec_Times255.calls (Int.tmod (rd t145 3) 256) (Int.tmod (rd t145 4) 256) t164 _ A55.out).mono ?_); rintro e w' ⟨rfl, ⟨nd, rfl⟩⟩))
                                    go_ret
                                    exact ⟨by first | rfl | (simp [errW_none, errW_some] <;> rfl) | (simp [*, errW_none, errW_some] <;> rfl), by repeat (first | (with_reducible first | exact HB.out | apply below_alloc | apply pw_below_drewN | apply below_drew1) | exact HB.out)⟩
                                  · rw [if_neg c54] at H
                                    have c54b0 : (t163 == 0) = false := beq_eq_false_iff_ne.mpr c54
                                    have c54b1 : (t163 != 0) = true := bne_iff_ne.mpr c54
                                    obtain rfl := Option.some.inj H
                                    exact absurd hr_ (by decide)
                                · rw [if_neg c52] at H
                                  have c52b0 : (t162 == (Int.tmod (rd t145 3) 256)) = false := beq_eq_false_iff_ne.mpr c52
                                  have c52b1 : (t162 != (Int.tmod (rd t145 3) 256)) = true := bne_iff_ne.mpr c52
                                  obtain rfl := Option.some.inj H
                                  exact absurd hr_ (by decide)
                              · rw [if_neg c50] at H
                                have c50b0 : (t154 == t161) = false := beq_eq_false_iff_ne.mpr c50
                                have c50b1 : (t154 != t161) = true := bne_iff_ne.mpr c50
                                obtain rfl := Option.some.inj H
                                exact absurd hr_ (by decide)
                            · rw [if_neg c48] at H
                              have c48b0 : decide (0 ≤ t154) = false := decide_eq_false c48
                              clear c48
                              obtain rfl := Option.some.inj H
                              exact absurd hr_ (by decide)
                          · rw [if_neg c47] at H
                            have c47b0 : decide (t154 ≤ (Int.tmod (rd t145 4) 256)) = false := decide_eq_false c47
                            clear c47
                            obtain rfl := Option.some.inj H
                            exact absurd hr_ (by decide)
                        · rw [if_neg c46] at H
                          have c46b0 : decide (t154 ≤ (Int.tmod (rd t145 3) 256)) = false := decide_eq_false c46
                          clear c46
                          obtain rfl := Option.some.inj H
                          exact absurd hr_ (by decide)
                      · rw [if_neg c45] at H
                        have c45b0 : (t160 == t151) = false := beq_eq_false_iff_ne.mpr c45
                        have c45b1 : (t160 != t151) = true := bne_iff_ne.mpr c45
                        obtain rfl := Option.some.inj H
                        exact absurd hr_ (by decide)
                    · rw [if_neg c43] at H
                      have c43b0 : decide ((wrap64 ((wrap64 ((rd t145 0) - 5000)) + (rd t145 1))) < (wrap64 ((wrap64 ((rd t145 2) * 2)) - 10000))) = false := decide_eq_false c43
                      clear c43
                      by_cases c72 : t151 = (wrap64 ((wrap64 ((rd t145 2) * 2)) - 10000))
                      · rw [if_pos c72] at H
                        have c72b0 : (t151 == (wrap64 ((wrap64 ((rd t145 2) * 2)) - 10000))) = true := beq_iff_eq.mpr c72
                        have c72b1 : (t151 != (wrap64 ((wrap64 ((rd t145 2) * 2)) - 10000))) = false := bne_eq_false_iff_eq.mpr c72
                        clear c72
                        replace H := Option.bind_eq_some_iff.mp H
                        obtain ⟨t165, A730, H⟩ := H
                        replace H : (if t165 = t151 then (if t154 ≤ (Int.tmod (rd t145 3) 256) then (if t154 ≤ (Int.tmod (rd t145 4) 256) then (if t154 ≥ 0 then ((impl_Times255.f (Int.tmod (rd t145 4) 256) (Int.tmod (rd t145 3) 256)).bind fun t166 => (if t154 = t166 then ((impl_Times255.f (Int.tmod (rd t145 3) 256) 255).bind fun t167 => (if t167 = (Int.tmod (rd t145 3) 256) then ((impl_Times255.f (Int.tmod (rd t145 3) 256) 0).bind fun t168 => (if t168 = 0 then ((spec_Times255.f (Int.tmod (rd t145 3) 256) (Int.tmod (rd t145 4) 256)).bind fun t169 => (some (t154 == t169))) else (some false))) else (some false))) else (some false))) else (some false)) else (some false)) else (some false)) else (some false)) = some r := H
                        have A73 := Aside0.mk A730
                        clear A730
                        by_cases c74 : t165 = t151
                        · rw [if_pos c74] at H
                          have c74b0 : (t165 == t151) = true := beq_iff_eq.mpr c74
                          have c74b1 : (t165 != t151) = false := bne_eq_false_iff_eq.mpr c74
                          clear c74
                          by_cases c75 : t154 ≤ (Int.tmod (rd t145 3) 256)
                          · rw [if_pos c75] at H
                            have c75b0 : decide (t154 ≤ (Int.tmod (rd t145 3) 256)) = true := decide_eq_true c75
                            clear c75
                            by_cases c76 : t154 ≤ (Int.tmod (rd t145 4) 256)
                            · rw [if_pos c76] at H
                              have c76b0 : decide (t154 ≤ (Int.tmod (rd t145 4) 256)) = true := decide_eq_true c76
                              clear c76
                              by_cases c77 : t154 ≥ 0
                              · rw [if_pos c77] at H
                                have c77b0 : decide (0 ≤ t154) = true := decide_eq_true c77
                                clear c77
                                replace H := Option.bind_eq_some_iff.mp H
                                obtain ⟨t166, A780, H⟩ := H
                                replace H : (if t154 = t166 then ((impl_Times255.f (Int.tmod (rd t145 3) 256) 255).bind fun t167 => (if t167 = (Int.tmod (rd t145 3) 256) then ((impl_Times255.f (Int.tmod (rd t145 3) 256) 0).bind fun t168 => (if t168 = 0 then ((spec_Times255.f (Int.tmod (rd t145 3) 256) (Int.tmod (rd t145 4) 256)).bind fun t169 => (some (t154 == t169))) else (some false))) else (some false))) else (some false)) = some r := H
                                have A78 := Aside0.mk A780
                                clear A780
                                by_cases c79 : t154 = t166
                                · rw [if_pos c79] at H
                                  have c79b0 : (t154 == t166) = true := beq_iff_eq.mpr c79
                                  have c79b1 : (t154 != t166) = false := bne_eq_false_iff_eq.mpr c79
                                  clear c79
                                  replace H := Option.bind_eq_some_iff.mp H
                                  obtain ⟨t167, A800, H⟩ := H
                                  replace H : (if t167 = (Int.tmod (rd t145 3) 256) then ((impl_Times255.f (Int.tmod (rd t145 3) 256) 0).bind fun t168 => (if t168 = 0 then ((spec_Times255.f (Int.tmod (rd t145 3) 256) (Int.tmod (rd t145 4) 256)).bind fun t169 => (some (t154 == t169))) else (some false))) else (some false)) = some r := H
                                  have A80 := Aside0.mk A800
                                  clear A800
                                  by_cases c81 : t167 = (Int.tmod (rd t145 3) 256)
                                  · rw [if_pos c81] at H
                                    have c81b0 : (t167 == (Int.tmod (rd t145 3) 256)) = true := beq_iff_eq.mpr c81
                                    have c81b1 : (t167 != (Int.tmod (rd t145 3) 256)) = false := bne_eq_false_iff_eq.mpr c81
                                    clear c81
                                    replace H := Option.bind_eq_some_iff.mp H
                                    obtain ⟨t168, A820, H⟩ := H
                                    replace H : (if t168 = 0 then ((spec_Times255.f (Int.tmod (rd t145 3) 256) (Int.tmod (rd t145 4) 256)).bind fun t169 => (some (t154 == t169))) else (some false)) = some r := H
                                    have A82 := Aside0.mk A820
                                    clear A820
                                    by_cases c83 : t168 = 0
                                    · rw [if_pos c83] at H
                                      have c83b0 : (t168 == 0) = true := beq_iff_eq.mpr c83
                                      have c83b1 : (t168 != 0) = false := bne_eq_false_iff_eq.mpr c83
                                      clear c83
                                      replace H := Option.bind_eq_some_iff.mp H
                                      obtain ⟨t169, A840, H⟩ := H
                                      replace H : (some (t154 == t169)) = some r := H
                                      have A84 := Aside0.mk A840
                                      clear A840
                                      obtain rfl := Option.some.inj H
                                      go_enter Try.func13, Try.ntmps13
                                      go_wp2_with (first | ((with_reducible refine gate_callee (f := 33) rfl ?_); refine goesL_ (some 12) rfl rfl Try.func33 (by kernel_rfl) rfl #[.slice A0 l0.length c0] rfl (by (try simp only [List.map_toArray, List.map_cons, List.map_nil]); first | done | rfl | (simp only [List.length_drop, List.length_take]; rfl)) ?_; (with_reducible refine (laws_big.calls _ _ l0 false _ ?side1 ?side2 A2.out).mono ?_); (case side1 => repeat (first | exact HR0.out | (with_reducible refine Kd.C_alloc ?_ _) | (with_reducible refine Kd.C_drewN ?_ _) | (with_reducible refine Kd.C_drew ?_))); (case side2 => exact HC0.out); rintro e w' ⟨rfl, ⟨nd, rfl⟩⟩; refine ⟨_, rfl, ?_⟩) | ((with_reducible refine gate_callee (f := 34) rfl ?_); refine goesL_ (some 14) rfl rfl Try.func34 (by kernel_rfl) rfl #[.slice A0 l0.length c0] rfl (by (try simp only [List.map_toArray, List.map_cons, List.map_nil]); first | done | rfl | (simp only [List.length_drop, List.length_take]; rfl)) ?_; (with_reducible refine (spec_DrawPlaces.calls k _ _ l0 t145 _ ?side1 ?side2 A4.out).mono ?_); (case side1 => repeat (first | exact HR0.out | (with_reducible refine Kd.C_alloc ?_ _) | (with_reducible refine Kd.C_drewN ?_ _) | (with_reducible refine Kd.C_drew ?_))); (case side2 => exact HC0.out); rintro e w85 ⟨v146, rfl, ho0, hb⟩; refine ⟨_, rfl, ?_⟩; have n0_ := Aside0.mk (Kd.R_lower ho0 (below_size (by repeat (first | (with_reducible first | exact HB.out | apply below_alloc | apply pw_below_drewN | apply below_drew1) | exact HB.out)))); have n1_ := Aside0.mk (below_step (by repeat (first | (with_reducible first | exact HB.out | apply below_alloc | apply pw_below_drewN | apply below_drew1) | exact HB.out)) hb); clear HB; have HO147 := n0_; have HB := n1_; clear n0_ n1_; (try clear hb); (try clear hb2); (try clear hk); (try clear hi); (try clear ho0); obtain ⟨Ao86, co86, eo86⟩ := Kd.R_slice HO147.out; subst eo86; have p148 : 0 ≤ (0 : Int) := (by omega); have q148 : 0 < (t145.length : Int) := of_decide_eq_true (by first | (with_reducible assumption) | assumption); obtain ⟨ad148, e148, hx148_0⟩ := Kd.at_int (Kd.R_reads' HO147.out).2.2 0 p148 q148; cases e148; have qi148 : (0 < t145.length) = True := eq_true (by omega); (try rw [show ((0 : Int)).toNat = 0 from rfl] at hx148_0); (try rw [Addr.add_zero'] at hx148_0); replace p148 := eq_true p148; replace q148 := eq_true q148; have p149 : 0 ≤ (1 : Int) := (by omega); have q149 : 1 < (t145.length : Int) := of_decide_eq_true (by first | (with_reducible assumption) | assumption); obtain ⟨ad149, e149, hx149_0⟩ := Kd.at_int (Kd.R_reads' HO147.out).2.2 1 p149 q149; obtain rfl : ad148 = ad149 := (by injection e149); (try simp only [show (1 : Int).toNat = 1 from rfl, Nat.reduceMul, Nat.reduceEqDiff, Go.Addr.add, ↓reduceIte] at hx149_0); have qi149 : (1 < t145.length) = True := eq_true (by omega); (try rw [show ((1 : Int)).toNat = 1 from rfl] at hx149_0); replace p149 := eq_true p149; replace q149 := eq_true q149; have p150 : 0 ≤ (2 : Int) := (by omega); have q150 : 2 < (t145.length : Int) := of_decide_eq_true (by first | (with_reducible assumption) | assumption); obtain ⟨ad150, e150, hx150_0⟩ := Kd.at_int (Kd.R_reads' HO147.out).2.2 2 p150 q150; obtain rfl : ad148 = ad150 := (by injection e150); (try simp only [show (2 : Int).toNat = 2 from rfl, Nat.reduceMul, Nat.reduceEqDiff, Go.Addr.add, ↓reduceIte] at hx150_0); have qi150 : (2 < t145.length) = True := eq_true (by omega); (try rw [show ((2 : Int)).toNat = 2 from rfl] at hx150_0); replace p150 := eq_true p150; replace q150 := eq_true q150) | ((with_reducible refine gate_callee (f := 43) rfl ?_); refine goesL_ (some 32) rfl rfl Try.func43 (by kernel_rfl) rfl #[.int .i64 (wrap64 ((wrap64 ((rd t145 2) * 2)) - 10000)), .int .i64 (wrap64 ((rd t145 0) - 5000)), .int .i64 (wrap64 ((wrap64 ((rd t145 0) - 5000)) + (rd t145 1)))] rfl (by (try simp only [List.map_toArray, List.map_cons, List.map_nil]); first | done | rfl | (simp only [List.length_drop, List.length_take]; rfl)) ?_; (with_reducible refine (impl_Clamp.calls (wrap64 ((wrap64 ((rd t145 2) * 2)) - 10000)) (wrap64 ((rd t145 0) - 5000)) (wrap64 ((wrap64 ((rd t145 0) - 5000)) + (rd t145 1))) t151 _ A8.out).mono ?_); rintro e w' ⟨rfl, ⟨nd, rfl⟩⟩; refine ⟨_, rfl, ?_⟩; have p152 : 0 ≤ (3 : Int) := (by omega); have q152 : 3 < (t145.length : Int) := of_decide_eq_true (by first | (with_reducible assumption) | assumption); obtain ⟨ad152, e152, hx152_0⟩ := Kd.at_int (Kd.R_reads' HO147.out).2.2 3 p152 q152; obtain rfl : ad148 = ad152 := (by injection e152); (try simp only [show (3 : Int).toNat = 3 from rfl, Nat.reduceMul, Nat.reduceEqDiff, Go.Addr.add, ↓reduceIte] at hx152_0); have qi152 : (3 < t145.length) = True := eq_true (by omega); (try rw [show ((3 : Int)).toNat = 3 from rfl] at hx152_0); replace p152 := eq_true p152; replace q152 := eq_true q152; have p153 : 0 ≤ (4 : Int) := (by omega); have q153 : 4 < (t145.length : Int) := of_decide_eq_true (by first | (with_reducible assumption) | assumption); obtain ⟨ad153, e153, hx153_0⟩ := Kd.at_int (Kd.R_reads' HO147.out).2.2 4 p153 q153; obtain rfl : ad148 = ad153 := (by injection e153); (try simp only [show (4 : Int).toNat = 4 from rfl, Nat.reduceMul, Nat.reduceEqDiff, Go.Addr.add, ↓reduceIte] at hx153_0); have qi153 : (4 < t145.length) = True := eq_true (by omega); (try rw [show ((4 : Int)).toNat = 4 from rfl] at hx153_0); replace p153 := eq_true p153; replace q153 := eq_true q153) | ((with_reducible refine gate_callee (f := 30) rfl ?_); refine goesL_ (some 43) rfl rfl Try.func30 (by kernel_rfl) rfl #[.int .i64 (Int.tmod (rd t145 3) 256), .int .i64 (Int.tmod (rd t145 4) 256)] rfl (by (try simp only [List.map_toArray, List.map_cons, List.map_nil]); first | done | rfl | (simp only [List.length_drop, List.length_take]; rfl)) ?_; (with_reducible refine (impl_Times255.calls (Int.tmod (rd t145 3) 256) (Int.tmod (rd t145 4) 256) t154 _ A11.out).mono ?_); rintro e w' ⟨rfl, ⟨nd, rfl⟩⟩; refine ⟨_, rfl, ?_⟩) | (go_at_call 43; (with_reducible refine (impl_Clamp.calls t151 (wrap64 ((rd t145 0) - 5000)) (wrap64 ((wrap64 ((rd t145 0) - 5000)) + (rd t145 1))) t165 _ A73.out).mono ?_); rintro e w' ⟨rfl, ⟨nd, rfl⟩⟩) | (go_at_call 30; (with_reducible refine (impl_Times255.calls (Int.tmod (rd t145 4) 256) (Int.tmod (rd t145 3) 256) t166 _ A78.out).mono ?_); rintro e w' ⟨rfl, ⟨nd, rfl⟩⟩) | (go_at_call 30; (with_reducible refine (impl_Times255.calls (Int.tmod (rd t145 3) 256) 255 t167 _ A80.out).mono ?_); rintro e w' ⟨rfl, ⟨nd, rfl⟩⟩) | (go_at_call 30; (with_reducible refine (impl_Times255.calls (Int.tmod (rd t145 3) 256) 0 t168 _ A82.out).mono ?_); rintro e w' ⟨rfl, ⟨nd, rfl⟩⟩) | (go_at_call 29; (with_reducible refine (spec_Times255.calls (Int.tmod (rd t145 3) 256) (Int.tmod (rd t145 4) 256) t169 _ A84.out).mono ?_); rintro e w' ⟨rfl, ⟨nd, rfl⟩⟩))
                                      go_ret
                                      exact ⟨by first | rfl | (simp [errW_none, errW_some] <;> rfl) | (simp [*, errW_none, errW_some] <;> rfl), by repeat (first | (with_reducible first | exact HB.out | apply below_alloc | apply pw_below_drewN | apply below_drew1) | exact HB.out)⟩
                                    · rw [if_neg c83] at H
                                      have c83b0 : (t168 == 0) = false := beq_eq_false_iff_ne.mpr c83
                                      have c83b1 : (t168 != 0) = true := bne_iff_ne.mpr c83
                                      obtain rfl := Option.some.inj H
                                      exact absurd hr_ (by decide)
                                  · rw [if_neg c81] at H
                                    have c81b0 : (t167 == (Int.tmod (rd t145 3) 256)) = false := beq_eq_false_iff_ne.mpr c81
                                    have c81b1 : (t167 != (Int.tmod (rd t145 3) 256)) = true := bne_iff_ne.mpr c81
                                    obtain rfl := Option.some.inj H
                                    exact absurd hr_ (by decide)
                                · rw [if_neg c79] at H
                                  have c79b0 : (t154 == t166) = false := beq_eq_false_iff_ne.mpr c79
                                  have c79b1 : (t154 != t166) = true := bne_iff_ne.mpr c79
                                  obtain rfl := Option.some.inj H
                                  exact absurd hr_ (by decide)
                              · rw [if_neg c77] at H
                                have c77b0 : decide (0 ≤ t154) = false := decide_eq_false c77
                                clear c77
                                obtain rfl := Option.some.inj H
                                exact absurd hr_ (by decide)
                            · rw [if_neg c76] at H
                              have c76b0 : decide (t154 ≤ (Int.tmod (rd t145 4) 256)) = false := decide_eq_false c76
                              clear c76
                              obtain rfl := Option.some.inj H
                              exact absurd hr_ (by decide)
                          · rw [if_neg c75] at H
                            have c75b0 : decide (t154 ≤ (Int.tmod (rd t145 3) 256)) = false := decide_eq_false c75
                            clear c75
                            obtain rfl := Option.some.inj H
                            exact absurd hr_ (by decide)
                        · rw [if_neg c74] at H
                          have c74b0 : (t165 == t151) = false := beq_eq_false_iff_ne.mpr c74
                          have c74b1 : (t165 != t151) = true := bne_iff_ne.mpr c74
                          obtain rfl := Option.some.inj H
                          exact absurd hr_ (by decide)
                      · rw [if_neg c72] at H
                        have c72b0 : (t151 == (wrap64 ((wrap64 ((rd t145 2) * 2)) - 10000))) = false := beq_eq_false_iff_ne.mpr c72
                        have c72b1 : (t151 != (wrap64 ((wrap64 ((rd t145 2) * 2)) - 10000))) = true := bne_iff_ne.mpr c72
                        obtain rfl := Option.some.inj H
                        exact absurd hr_ (by decide)
                · rw [if_neg c13] at H
                  have c13b0 : decide (t151 ≤ (wrap64 ((wrap64 ((rd t145 0) - 5000)) + (rd t145 1)))) = false := decide_eq_false c13
                  clear c13
                  obtain rfl := Option.some.inj H
                  exact absurd hr_ (by decide)
              · rw [if_neg c12] at H
                have c12b0 : decide ((wrap64 ((rd t145 0) - 5000)) ≤ t151) = false := decide_eq_false c12
                clear c12
                obtain rfl := Option.some.inj H
                exact absurd hr_ (by decide)
            · rw [if_neg c10] at H
              exact absurd H (by simp)
          · rw [if_neg c9] at H
            exact absurd H (by simp)
        · rw [if_neg c7] at H
          exact absurd H (by simp)
      · rw [if_neg c6] at H
        exact absurd H (by simp)
    · rw [if_neg c5] at H
      exact absurd H (by simp)


/-- THE ONE PURE STATEMENT of laws_FnBetween: yours. -/
def laws_FnBetween.Pure : Prop := ∀ (l0 : List Int), l0.length ≤ maxLen → l0.length * 1 ≤ 140737488351232 → (∀ x ∈ l0, (Lit.int .u8 x).wf = true) → ∃ k, laws_FnBetween.f k l0 = some true
theorem laws_FnBetween.walk (P : laws_FnBetween.Pure) (a0 : Option Addr) (len0 cap0 : Nat) (z0 : List Int) (w : World) (w0 : (a0 = none ∧ len0 = 0 ∧ cap0 = 0 ∧ z0 = []) ∨ ∃ x, a0 = some x ∧ len0 ≤ cap0 ∧ cap0 ≤ maxLen ∧ z0.length = cap0 ∧ (∀ i, i < z0.length → w.cell? (x.add i) = some (.int .u8 (z0.getD i 0))) ∧ ∀ n ∈ z0, (Lit.int .u8 n).wf = true) (y0 : len0 * 1 ≤ 140737488351232) :
    Calls Try.prog 13 #[.slice a0 len0 cap0] w fun e w' => e = .returned (.bool true) ∧ Below w.heap.size w w' := by
  obtain ⟨l0, rfl, hr0, hm0, hw0, hc0⟩ := ReadsInt.ofRowC w0
  obtain ⟨k, h⟩ := P l0 hm0 y0 hw0
  refine (laws_FnBetween.calls k _ _ l0 true rfl w (Kd.C_of_reads (d := (0 : Int)) (h1 := fun _ => rfl) hr0) hc0 h).mono ?_
  rintro e w' ⟨rfl, hd⟩
  exact ⟨rfl, hd⟩

end Go.Proofs.Ytjipfhcekjmjkaa.PFnBetween
