/- The walks of FnCurves, part 6: what the print wrote, with some proofs of the session's own. -/
import Derived.Test.YtpemfeobcbpjdaaName
import Derived.Test.YtpemfeobcbpjdaaPFnCurvesx0
import Derived.Test.YtpemfeobcbpjdaaQFnCurvesx1
import Derived.Test.YtpemfeobcbpjdaaQFnCurvesx2
import Derived.Test.YtpemfeobcbpjdaaQFnCurvesx3
import Derived.Test.YtpemfeobcbpjdaaQFnCurvesx4
import Derived.Test.YtpemfeobcbpjdaaQFnCurvesx5
namespace Go.Proofs.Ytpemfeobcbpjdaa.PFnCurves
open Go.RowKit Go.Proofs.YtpemfeobcbpjdaaW.PrintWords Go.Proofs.YtpemfeobcbpjdaaW.PrintLast Go.Proofs.YtpemfeobcbpjdaaW.PrintMore
attribute [local go_sem] max2_int min2_int max_two min_two max_three min_three max_four min_four   -- for this text's walks alone
set_option linter.unusedVariables false
set_option linter.unusedSimpArgs false

attribute [local go_sem high] eqA34
/-! ### laws_FnCurves: function 9 -/
def laws_FnCurves.l0 : Nat → Int → Int → Int → Int → Int → Int → Int → Int → Int → Int → Int → Int → Int → Int → Int → Int → Int → Option (Bool)
  | 0, _, _, _, _, _, _, _, _, _, _, _, _, _, _, _, _, _ => none
  | k + 1, x10, x234000, x234001, x236000, x236001, x238000, x238001, x240000, x240001, x248000, x248001, x248002, x248003, x256000, x256001, x256002, x256003 => if x10 ≤ 8 then (if x10 ≤ 4 then ((impl_QuadAt.f k x234000 x234001 x236000 x236001 x238000 x238001 x10).bind fun bt256 => ((spec_InBox.f x248000 x248001 x248002 x248003 bt256.1 bt256.2).bind fun t258 => (if t258 = true then ((impl_CubicAt.f k x234000 x234001 x236000 x236001 x238000 x238001 x240000 x240001 x10).bind fun bt259 => ((spec_InBox.f x256000 x256001 x256002 x256003 bt259.1 bt259.2).bind fun t261 => (if t261 = true then ((impl_CubicAt.f k x234000 x234001 x236000 x236001 x238000 x238001 x240000 x240001 x10).bind fun bt262 => ((spec_CubicAt.f k x234000 x234001 x236000 x236001 x238000 x238001 x240000 x240001 x10).bind fun bt264 => (if (!(bt262.1 == bt264.1) || (!(bt262.2 == bt264.2))) = true then (some false) else (laws_FnCurves.l0 k (wrap64 (x10 + 1)) x234000 x234001 x236000 x236001 x238000 x238001 x240000 x240001 x248000 x248001 x248002 x248003 x256000 x256001 x256002 x256003)))) else (some false)))) else (some false)))) else ((impl_CubicAt.f k x234000 x234001 x236000 x236001 x238000 x238001 x240000 x240001 x10).bind fun bt266 => ((spec_InBox.f x256000 x256001 x256002 x256003 bt266.1 bt266.2).bind fun t268 => (if t268 = true then ((impl_CubicAt.f k x234000 x234001 x236000 x236001 x238000 x238001 x240000 x240001 x10).bind fun bt269 => ((spec_CubicAt.f k x234000 x234001 x236000 x236001 x238000 x238001 x240000 x240001 x10).bind fun bt271 => (if (!(bt269.1 == bt271.1) || (!(bt269.2 == bt271.2))) = true then (some false) else (laws_FnCurves.l0 k (wrap64 (x10 + 1)) x234000 x234001 x236000 x236001 x238000 x238001 x240000 x240001 x248000 x248001 x248002 x248003 x256000 x256001 x256002 x256003)))) else (some false))))) else ((impl_QuadAt.f k x234000 x234001 x236000 x236001 x238000 x238001 0).bind fun bt273 => (if (bt273.1 == x234000 && (bt273.2 == x234001)) = true then ((impl_QuadAt.f k x234000 x234001 x236000 x236001 x238000 x238001 4).bind fun bt275 => (if (bt275.1 == x238000 && (bt275.2 == x238001)) = true then ((impl_CubicAt.f k x234000 x234001 x236000 x236001 x238000 x238001 x240000 x240001 0).bind fun bt277 => (if (bt277.1 == x234000 && (bt277.2 == x234001)) = true then ((impl_CubicAt.f k x234000 x234001 x236000 x236001 x238000 x238001 x240000 x240001 8).bind fun bt279 => (if (bt279.1 == x240000 && (bt279.2 == x240001)) = true then ((impl_QuadAt.f k x234000 x234001 x236000 x236001 x238000 x238001 (-5)).bind fun bt281 => (if (bt281.1 == x234000 && (bt281.2 == x234001)) = true then ((impl_QuadAt.f k x234000 x234001 x234000 x234001 x234000 x234001 2).bind fun bt283 => (some (bt283.1 == x234000 && (bt283.2 == x234001)))) else (some false))) else (some false))) else (some false))) else (some false))) else (some false)))
def laws_FnCurves.f (k : Nat) (l0 : List Int) : Option (Bool) := (laws_big.f l0).bind fun t228 => (if t228 = true then (some true) else ((spec_DrawPoints.f k l0).bind fun t229 => (if 0 < (t229.length : Int) then (if 1 < (t229.length : Int) then (if 2 < (t229.length : Int) then (if 3 < (t229.length : Int) then ((spec_BoxOf.f k (([(⟨(rd_T34 t229 0).f0, (rd_T34 t229 0).f1⟩ : S34), (⟨(rd_T34 t229 1).f0, (rd_T34 t229 1).f1⟩ : S34), (⟨(rd_T34 t229 2).f0, (rd_T34 t229 2).f1⟩ : S34)] : List (S34)))).bind fun bt243 => ((spec_BoxOf.f k (([(⟨(rd_T34 t229 0).f0, (rd_T34 t229 0).f1⟩ : S34), (⟨(rd_T34 t229 1).f0, (rd_T34 t229 1).f1⟩ : S34), (⟨(rd_T34 t229 2).f0, (rd_T34 t229 2).f1⟩ : S34), (⟨(rd_T34 t229 3).f0, (rd_T34 t229 3).f1⟩ : S34)] : List (S34)))).bind fun bt251 => (laws_FnCurves.l0 k 0 ((rd_T34 t229 0).f0) ((rd_T34 t229 0).f1) ((rd_T34 t229 1).f0) ((rd_T34 t229 1).f1) ((rd_T34 t229 2).f0) ((rd_T34 t229 2).f1) ((rd_T34 t229 3).f0) ((rd_T34 t229 3).f1) bt243.1 bt243.2.1 bt243.2.2.1 bt243.2.2.2 bt251.1 bt251.2.1 bt251.2.2.1 bt251.2.2.2))) else (none)) else (none)) else (none)) else (none))))
theorem laws_FnCurves.mono_l : ∀ k, (∀ y0 y1 y2 y3 y4 y5 y6 y7 y8 y9 y10 y11 y12 y13 y14 y15 y16, LeO (laws_FnCurves.l0 k y0 y1 y2 y3 y4 y5 y6 y7 y8 y9 y10 y11 y12 y13 y14 y15 y16) (laws_FnCurves.l0 (k + 1) y0 y1 y2 y3 y4 y5 y6 y7 y8 y9 y10 y11 y12 y13 y14 y15 y16))
  | 0 => fun _ _ _ _ _ _ _ _ _ _ _ _ _ _ _ _ _ r h => by simp [laws_FnCurves.l0] at h
  | k + 1 => by
    have ih0 := laws_FnCurves.mono_l k
    · intro y0 y1 y2 y3 y4 y5 y6 y7 y8 y9 y10 y11 y12 y13 y14 y15 y16
      unfold laws_FnCurves.l0
      repeat' first
      | (with_reducible exact ih0 _ _ _ _ _ _ _ _ _ _ _ _ _ _ _ _ _)
      | (with_reducible exact impl_CubicAt.mono _ _ _ _ _ _ _ _ _ _)
      | (with_reducible exact impl_QuadAt.mono _ _ _ _ _ _ _ _)
      | (with_reducible exact spec_BoxOf.mono _ _)
      | (with_reducible exact spec_CubicAt.mono _ _ _ _ _ _ _ _ _ _)
      | (with_reducible exact spec_DrawPoints.mono _ _)
      | (with_reducible exact LeO.refl _)
      | (with_reducible exact LeO.none _)
      | (with_reducible refine LeO.ite ?_ ?_)
      | (with_reducible refine LeO.bind ?_ (fun _ => ?_))
      | exact ih0 _ _ _ _ _ _ _ _ _ _ _ _ _ _ _ _ _
      | exact impl_CubicAt.mono _ _ _ _ _ _ _ _ _ _
      | exact impl_QuadAt.mono _ _ _ _ _ _ _ _
      | exact spec_BoxOf.mono _ _
      | exact spec_CubicAt.mono _ _ _ _ _ _ _ _ _ _
      | exact spec_DrawPoints.mono _ _
      | exact LeO.none _
      | refine LeO.ite ?_ ?_
      | refine LeO.bind ?_ (fun _ => ?_)
theorem laws_FnCurves.mono : ∀ a0 k, LeO (laws_FnCurves.f k a0) (laws_FnCurves.f (k + 1) a0) := by
  intro a0 k
  have ih0 := laws_FnCurves.mono_l k
  unfold laws_FnCurves.f
  repeat' first
      | (with_reducible exact ih0 _ _ _ _ _ _ _ _ _ _ _ _ _ _ _ _ _)
      | (with_reducible exact impl_CubicAt.mono _ _ _ _ _ _ _ _ _ _)
      | (with_reducible exact impl_QuadAt.mono _ _ _ _ _ _ _ _)
      | (with_reducible exact spec_BoxOf.mono _ _)
      | (with_reducible exact spec_CubicAt.mono _ _ _ _ _ _ _ _ _ _)
      | (with_reducible exact spec_DrawPoints.mono _ _)
      | (with_reducible exact LeO.refl _)
      | (with_reducible exact LeO.none _)
      | (with_reducible refine LeO.ite ?_ ?_)
      | (with_reducible refine LeO.bind ?_ (fun _ => ?_))
      | exact ih0 _ _ _ _ _ _ _ _ _ _ _ _ _ _ _ _ _
      | exact impl_CubicAt.mono _ _ _ _ _ _ _ _ _ _
      | exact impl_QuadAt.mono _ _ _ _ _ _ _ _
      | exact spec_BoxOf.mono _ _
      | exact spec_CubicAt.mono _ _ _ _ _ _ _ _ _ _
      | exact spec_DrawPoints.mono _ _
      | exact LeO.none _
      | refine LeO.ite ?_ ?_
      | refine LeO.bind ?_ (fun _ => ?_)
def laws_FnCurves.T13 : Bool × List (List Nat × List Nat) := (true, [([], []), ([0], [0]), ([1], [1]), ([2], [2]), ([2], [2]), ([2], [2]), ([2], [2]), ([2], [2]), ([4, 5, 6, 7, 2, 2], [2, 4, 5, 6, 7]), ([3, 8, 8, 2], [2, 3, 8]), ([9, 2], [2, 9]), ([2, 10], [2, 10]), ([11, 9], [11]), ([12], [12]), ([12], [12]), ([12], [12]), ([12], [12]), ([12], [12]), ([12], [12]), ([14, 15, 16, 17, 18, 12, 12], [12, 14, 15, 16, 17, 18]), ([13, 19, 19, 12], [12, 13, 19]), ([20, 12], [12, 20]), ([12, 21], [12, 21]), ([22, 20], [22]), ([23], [23]), ([23], [23]), ([23], [23]), ([23], [23]), ([23], [23]), ([24, 25, 26, 27, 28, 23, 23], [23, 24, 25, 26, 27, 28]), ([23], [23]), ([23], [23]), ([23], [23]), ([23], [23]), ([23], [23]), ([30, 31, 32, 33, 34, 29, 23], [23, 30, 31, 32, 33, 34]), ([29, 35, 23], [23, 29, 35]), ([23, 36], [23, 36])])
def laws_FnCurves.B13 : List Nat := [0, 1, 3, 7, 7, 7, 7, 7, 247, 511, 1023, 2047, 4095, 8191, 8191, 8191, 8191, 8191, 8191, 516095, 1048575, 2097151, 4194303, 8388607, 16777215, 16777215, 16777215, 16777215, 16777215, 536870911, 16777215, 16777215, 16777215, 16777215, 16777215, 34359738367, 68719476735, 137438953471]
theorem laws_FnCurves.tab13 : rtab .any (opsOf Try.f9 13) = laws_FnCurves.T13 := by kernel_rfl
theorem laws_FnCurves.bits13 : waitsOk laws_FnCurves.T13.2 laws_FnCurves.B13 = true := by kernel_rfl
def laws_FnCurves.T15 : Bool × List (List Nat × List Nat) := (true, [([], []), ([], []), ([], []), ([0, 1, 2], [0, 1, 2]), ([], []), ([3, 4], [3, 4]), ([5, 3], [5]), ([6], [6]), ([6], [6]), ([6], [6]), ([7, 8, 9, 6, 6], [6, 7, 8, 9]), ([6], [6]), ([10, 11, 6], [6, 10, 11]), ([6, 12], [6, 12]), ([13, 10], [13]), ([14], [14]), ([14], [14]), ([14], [14]), ([14], [14]), ([15, 16, 17, 18, 14, 14], [14, 15, 16, 17, 18]), ([14], [14]), ([19, 20, 14], [14, 19, 20]), ([14, 21], [14, 21]), ([22, 19], [22]), ([23], [23]), ([23], [23]), ([23], [23]), ([23], [23]), ([24, 25, 26, 27, 23, 23], [23, 24, 25, 26, 27]), ([23], [23]), ([28, 29, 23], [23, 28, 29]), ([23, 30], [23, 30]), ([31, 28], [31]), ([32], [32]), ([32], [32]), ([32], [32]), ([33, 34, 35, 32, 32], [32, 33, 34, 35]), ([32], [32]), ([36, 37, 32], [32, 36, 37]), ([32, 38], [32, 38]), ([39, 36], [39]), ([40], [40]), ([40], [40]), ([40], [40]), ([41, 42, 43, 40, 40], [40, 41, 42, 43]), ([40], [40]), ([44, 45, 40], [40, 44, 45]), ([40, 46], [40, 46]), ([47, 44, 0, 1, 2, 3, 4, 5, 6, 7, 8, 9, 10, 11, 12, 13, 14, 15, 16, 17, 18, 19, 20, 21, 22, 23, 24, 25, 26, 27, 28, 29, 30, 31, 32, 33, 34, 35, 36, 37, 38, 39, 40, 41, 42, 43, 44, 45, 46, 47], [47])])
def laws_FnCurves.B15 : List Nat := [0, 0, 0, 7, 0, 31, 63, 127, 127, 127, 1023, 127, 4095, 8191, 16383, 32767, 32767, 32767, 32767, 524287, 32767, 2097151, 4194303, 8388607, 16777215, 16777215, 16777215, 16777215, 268435455, 16777215, 1073741823, 2147483647, 4294967295, 8589934591, 8589934591, 8589934591, 68719476735, 8589934591, 274877906943, 549755813887, 1099511627775, 2199023255551, 2199023255551, 2199023255551, 17592186044415, 2199023255551, 70368744177663, 140737488355327, 281474976710655]
theorem laws_FnCurves.tab15 : rtab .any (opsOf Try.f9 15) = laws_FnCurves.T15 := by kernel_rfl
theorem laws_FnCurves.bits15 : waitsOk laws_FnCurves.T15.2 laws_FnCurves.B15 = true := by kernel_rfl
set_option maxHeartbeats 8000000 in
set_option maxRecDepth 100000 in
theorem laws_FnCurves.calls (k : Nat) (A0 : Option Addr) (c0 : Nat) (l0 : List Int) (r : Bool) (hr_ : r = true) (w : World) (hr0 : Kd.C (Kd.int .u8) w A0 l0.length l0) (hc0 : l0.length ≤ c0) (h : laws_FnCurves.f k l0 = some r) :
    Calls Try.prog 9 #[.slice A0 l0.length c0] w fun e w' => e = .returned (.bool r) ∧ Below w.heap.size w w' := by
 have hu34 := Try.underlying34
 have hu26 := Try.underlying26
 have HR0 := Aside0.mk hr0
 have HC0 := Aside0.mk hc0
 clear hr0 hc0
 have HB := Aside0.mk (Below.refl w.heap.size w)
 have H : ((laws_big.f l0).bind fun t228 => (if t228 = true then (some true) else ((spec_DrawPoints.f k l0).bind fun t229 => (if 0 < (t229.length : Int) then (if 1 < (t229.length : Int) then (if 2 < (t229.length : Int) then (if 3 < (t229.length : Int) then ((spec_BoxOf.f k (([(⟨(rd_T34 t229 0).f0, (rd_T34 t229 0).f1⟩ : S34), (⟨(rd_T34 t229 1).f0, (rd_T34 t229 1).f1⟩ : S34), (⟨(rd_T34 t229 2).f0, (rd_T34 t229 2).f1⟩ : S34)] : List (S34)))).bind fun bt243 => ((spec_BoxOf.f k (([(⟨(rd_T34 t229 0).f0, (rd_T34 t229 0).f1⟩ : S34), (⟨(rd_T34 t229 1).f0, (rd_T34 t229 1).f1⟩ : S34), (⟨(rd_T34 t229 2).f0, (rd_T34 t229 2).f1⟩ : S34), (⟨(rd_T34 t229 3).f0, (rd_T34 t229 3).f1⟩ : S34)] : List (S34)))).bind fun bt251 => (laws_FnCurves.l0 k 0 ((rd_T34 t229 0).f0) ((rd_T34 t229 0).f1) ((rd_T34 t229 1).f0) ((rd_T34 t229 1).f1) ((rd_T34 t229 2).f0) ((rd_T34 t229 2).f1) ((rd_T34 t229 3).f0) ((rd_T34 t229 3).f1) bt243.1 bt243.2.1 bt243.2.2.1 bt243.2.2.2 bt251.1 bt251.2.1 bt251.2.2.1 bt251.2.2.2))) else (none)) else (none)) else (none)) else (none))))) = some r := h
 clear h
 replace H := Option.bind_eq_some_iff.mp H
 obtain ⟨t228, A20, H⟩ := H
 replace H : (if t228 = true then (some true) else ((spec_DrawPoints.f k l0).bind fun t229 => (if 0 < (t229.length : Int) then (if 1 < (t229.length : Int) then (if 2 < (t229.length : Int) then (if 3 < (t229.length : Int) then ((spec_BoxOf.f k (([(⟨(rd_T34 t229 0).f0, (rd_T34 t229 0).f1⟩ : S34), (⟨(rd_T34 t229 1).f0, (rd_T34 t229 1).f1⟩ : S34), (⟨(rd_T34 t229 2).f0, (rd_T34 t229 2).f1⟩ : S34)] : List (S34)))).bind fun bt243 => ((spec_BoxOf.f k (([(⟨(rd_T34 t229 0).f0, (rd_T34 t229 0).f1⟩ : S34), (⟨(rd_T34 t229 1).f0, (rd_T34 t229 1).f1⟩ : S34), (⟨(rd_T34 t229 2).f0, (rd_T34 t229 2).f1⟩ : S34), (⟨(rd_T34 t229 3).f0, (rd_T34 t229 3).f1⟩ : S34)] : List (S34)))).bind fun bt251 => (laws_FnCurves.l0 k 0 ((rd_T34 t229 0).f0) ((rd_T34 t229 0).f1) ((rd_T34 t229 1).f0) ((rd_T34 t229 1).f1) ((rd_T34 t229 2).f0) ((rd_T34 t229 2).f1) ((rd_T34 t229 3).f0) ((rd_T34 t229 3).f1) bt243.1 bt243.2.1 bt243.2.2.1 bt243.2.2.2 bt251.1 bt251.2.1 bt251.2.2.1 bt251.2.2.2))) else (none)) else (none)) else (none)) else (none)))) = some r := H
 have A2 := Aside0.mk A20
 clear A20
 by_cases c3 : t228 = true
 ·subst c3
  have H1 : (some true) = some r := by rw [if_pos rfl] at H; exact H
  clear H
  have H := H1
  clear H1
  obtain rfl := Option.some.inj H
  go_enter Try.func9, Try.ntmps9
  go_wp2_with (first | ((with_reducible refine gate_callee (f := 27) rfl ?_); refine goesL_ (some 12) rfl rfl Try.func27 (by kernel_rfl) rfl #[.slice A0 l0.length c0] rfl (by (try simp only [List.map_toArray, List.map_cons, List.map_nil]); first | done | rfl | (simp only [List.length_drop, List.length_take]; rfl)) ?_; (with_reducible refine (laws_big.calls _ _ l0 true _ ?side1 ?side2 A2.out).mono ?_); (case side1 => repeat (first | exact HR0.out | (with_reducible refine Kd.C_alloc ?_ _) | (with_reducible refine Kd.C_drewN ?_ _) | (with_reducible refine Kd.C_drew ?_))); (case side2 => exact HC0.out); rintro e w' ⟨rfl, ⟨nd, rfl⟩⟩; refine ⟨_, rfl, ?_⟩))
  all_goals (go_ret; exact ⟨by first | rfl | (simp [errW_none, errW_some] <;> rfl) | (simp [*, errW_none, errW_some] <;> rfl), by repeat (first | (with_reducible first | exact HB.out | apply below_alloc | apply pw_below_drewN | apply below_drew1) | exact HB.out)⟩)
 ·replace c3 := Bool.eq_false_iff.mpr c3
  subst c3
  have H1 : ((spec_DrawPoints.f k l0).bind fun t229 => (if 0 < (t229.length : Int) then (if 1 < (t229.length : Int) then (if 2 < (t229.length : Int) then (if 3 < (t229.length : Int) then ((spec_BoxOf.f k (([(⟨(rd_T34 t229 0).f0, (rd_T34 t229 0).f1⟩ : S34), (⟨(rd_T34 t229 1).f0, (rd_T34 t229 1).f1⟩ : S34), (⟨(rd_T34 t229 2).f0, (rd_T34 t229 2).f1⟩ : S34)] : List (S34)))).bind fun bt243 => ((spec_BoxOf.f k (([(⟨(rd_T34 t229 0).f0, (rd_T34 t229 0).f1⟩ : S34), (⟨(rd_T34 t229 1).f0, (rd_T34 t229 1).f1⟩ : S34), (⟨(rd_T34 t229 2).f0, (rd_T34 t229 2).f1⟩ : S34), (⟨(rd_T34 t229 3).f0, (rd_T34 t229 3).f1⟩ : S34)] : List (S34)))).bind fun bt251 => (laws_FnCurves.l0 k 0 ((rd_T34 t229 0).f0) ((rd_T34 t229 0).f1) ((rd_T34 t229 1).f0) ((rd_T34 t229 1).f1) ((rd_T34 t229 2).f0) ((rd_T34 t229 2).f1) ((rd_T34 t229 3).f0) ((rd_T34 t229 3).f1) bt243.1 bt243.2.1 bt243.2.2.1 bt243.2.2.2 bt251.1 bt251.2.1 bt251.2.2.1 bt251.2.2.2))) else (none)) else (none)) else (none)) else (none))) = some r := by rw [if_neg (show ¬ (false = true) by decide)] at H; exact H
  clear H
  have H := H1
  clear H1
  replace H := Option.bind_eq_some_iff.mp H
  obtain ⟨t229, A40, H⟩ := H
  replace H : (if 0 < (t229.length : Int) then (if 1 < (t229.length : Int) then (if 2 < (t229.length : Int) then (if 3 < (t229.length : Int) then ((spec_BoxOf.f k (([(⟨(rd_T34 t229 0).f0, (rd_T34 t229 0).f1⟩ : S34), (⟨(rd_T34 t229 1).f0, (rd_T34 t229 1).f1⟩ : S34), (⟨(rd_T34 t229 2).f0, (rd_T34 t229 2).f1⟩ : S34)] : List (S34)))).bind fun bt243 => ((spec_BoxOf.f k (([(⟨(rd_T34 t229 0).f0, (rd_T34 t229 0).f1⟩ : S34), (⟨(rd_T34 t229 1).f0, (rd_T34 t229 1).f1⟩ : S34), (⟨(rd_T34 t229 2).f0, (rd_T34 t229 2).f1⟩ : S34), (⟨(rd_T34 t229 3).f0, (rd_T34 t229 3).f1⟩ : S34)] : List (S34)))).bind fun bt251 => (laws_FnCurves.l0 k 0 ((rd_T34 t229 0).f0) ((rd_T34 t229 0).f1) ((rd_T34 t229 1).f0) ((rd_T34 t229 1).f1) ((rd_T34 t229 2).f0) ((rd_T34 t229 2).f1) ((rd_T34 t229 3).f0) ((rd_T34 t229 3).f1) bt243.1 bt243.2.1 bt243.2.2.1 bt243.2.2.2 bt251.1 bt251.2.1 bt251.2.2.1 bt251.2.2.2))) else (none)) else (none)) else (none)) else (none)) = some r := H
  have A4 := Aside0.mk A40
  clear A40
  by_cases c5 : 0 < (t229.length : Int)
  ·rw [if_pos c5] at H
   have c5b0 : decide (0 < (t229.length : Int)) = true := decide_eq_true c5
   have c5b1 : decide (0 < t229.length) = true := decide_eq_true (by omega)
   clear c5
   by_cases c6 : 1 < (t229.length : Int)
   ·rw [if_pos c6] at H
    have c6b0 : decide (1 < (t229.length : Int)) = true := decide_eq_true c6
    have c6b1 : decide (1 < t229.length) = true := decide_eq_true (by omega)
    clear c6
    by_cases c7 : 2 < (t229.length : Int)
    ·rw [if_pos c7] at H
     have c7b0 : decide (2 < (t229.length : Int)) = true := decide_eq_true c7
     have c7b1 : decide (2 < t229.length) = true := decide_eq_true (by omega)
     clear c7
     by_cases c8 : 3 < (t229.length : Int)
     ·rw [if_pos c8] at H
      have c8b0 : decide (3 < (t229.length : Int)) = true := decide_eq_true c8
      have c8b1 : decide (3 < t229.length) = true := decide_eq_true (by omega)
      clear c8
      obtain ⟨y240, hy240⟩ : ∃ y_ : List (S34), y_ = (([(⟨(rd_T34 t229 0).f0, (rd_T34 t229 0).f1⟩ : S34), (⟨(rd_T34 t229 1).f0, (rd_T34 t229 1).f1⟩ : S34), (⟨(rd_T34 t229 2).f0, (rd_T34 t229 2).f1⟩ : S34)] : List (S34))) := ⟨_, rfl⟩
      replace H : ((spec_BoxOf.f k y240).bind fun bt243 => ((spec_BoxOf.f k (([(⟨(rd_T34 t229 0).f0, (rd_T34 t229 0).f1⟩ : S34), (⟨(rd_T34 t229 1).f0, (rd_T34 t229 1).f1⟩ : S34), (⟨(rd_T34 t229 2).f0, (rd_T34 t229 2).f1⟩ : S34), (⟨(rd_T34 t229 3).f0, (rd_T34 t229 3).f1⟩ : S34)] : List (S34)))).bind fun bt251 => (laws_FnCurves.l0 k 0 ((rd_T34 t229 0).f0) ((rd_T34 t229 0).f1) ((rd_T34 t229 1).f0) ((rd_T34 t229 1).f1) ((rd_T34 t229 2).f0) ((rd_T34 t229 2).f1) ((rd_T34 t229 3).f0) ((rd_T34 t229 3).f1) bt243.1 bt243.2.1 bt243.2.2.1 bt243.2.2.2 bt251.1 bt251.2.1 bt251.2.2.1 bt251.2.2.2))) = some r := by first | (rw [hy240]; with_reducible exact H) | (have H2_ := (Option.bind_some _ _).symm.trans H; rw [hy240]; with_reducible exact H2_) | (have H2_ := (Option.bind_some _ _).symm.trans H; with_reducible exact H2_) | with_reducible exact H | (rw [hy240]; exact H) | exact H
      have Ny240 := Aside0.mk hy240
      clear hy240
      replace H := Option.bind_eq_some_iff.mp H
      obtain ⟨⟨t243, t244, t245, t246⟩, A90, H⟩ := H
      replace H : ((spec_BoxOf.f k (([(⟨(rd_T34 t229 0).f0, (rd_T34 t229 0).f1⟩ : S34), (⟨(rd_T34 t229 1).f0, (rd_T34 t229 1).f1⟩ : S34), (⟨(rd_T34 t229 2).f0, (rd_T34 t229 2).f1⟩ : S34), (⟨(rd_T34 t229 3).f0, (rd_T34 t229 3).f1⟩ : S34)] : List (S34)))).bind fun bt251 => (laws_FnCurves.l0 k 0 ((rd_T34 t229 0).f0) ((rd_T34 t229 0).f1) ((rd_T34 t229 1).f0) ((rd_T34 t229 1).f1) ((rd_T34 t229 2).f0) ((rd_T34 t229 2).f1) ((rd_T34 t229 3).f0) ((rd_T34 t229 3).f1) t243 t244 t245 t246 bt251.1 bt251.2.1 bt251.2.2.1 bt251.2.2.2)) = some r := H
      have A9 := Aside0.mk A90
      clear A90
      obtain ⟨y248, hy248⟩ : ∃ y_ : List (S34), y_ = (([(⟨(rd_T34 t229 0).f0, (rd_T34 t229 0).f1⟩ : S34), (⟨(rd_T34 t229 1).f0, (rd_T34 t229 1).f1⟩ : S34), (⟨(rd_T34 t229 2).f0, (rd_T34 t229 2).f1⟩ : S34), (⟨(rd_T34 t229 3).f0, (rd_T34 t229 3).f1⟩ : S34)] : List (S34))) := ⟨_, rfl⟩
      replace H : ((spec_BoxOf.f k y248).bind fun bt251 => (laws_FnCurves.l0 k 0 ((rd_T34 t229 0).f0) ((rd_T34 t229 0).f1) ((rd_T34 t229 1).f0) ((rd_T34 t229 1).f1) ((rd_T34 t229 2).f0) ((rd_T34 t229 2).f1) ((rd_T34 t229 3).f0) ((rd_T34 t229 3).f1) t243 t244 t245 t246 bt251.1 bt251.2.1 bt251.2.2.1 bt251.2.2.2)) = some r := by first | (rw [hy248]; with_reducible exact H) | (have H2_ := (Option.bind_some _ _).symm.trans H; rw [hy248]; with_reducible exact H2_) | (have H2_ := (Option.bind_some _ _).symm.trans H; with_reducible exact H2_) | with_reducible exact H | (rw [hy248]; exact H) | exact H
      have Ny248 := Aside0.mk hy248
      clear hy248
      replace H := Option.bind_eq_some_iff.mp H
      obtain ⟨⟨t251, t252, t253, t254⟩, A100, H⟩ := H
      replace H : (laws_FnCurves.l0 k 0 ((rd_T34 t229 0).f0) ((rd_T34 t229 0).f1) ((rd_T34 t229 1).f0) ((rd_T34 t229 1).f1) ((rd_T34 t229 2).f0) ((rd_T34 t229 2).f1) ((rd_T34 t229 3).f0) ((rd_T34 t229 3).f1) t243 t244 t245 t246 t251 t252 t253 t254) = some r := H
      have A10 := Aside0.mk A100
      clear A100
      have H' := Aside0.mk H
      clear H
      go_enter Try.func9, Try.ntmps9
      go_wp2_with (first | ((with_reducible refine gate_callee (f := 27) rfl ?_); refine goesL_ (some 12) rfl rfl Try.func27 (by kernel_rfl) rfl #[.slice A0 l0.length c0] rfl (by (try simp only [List.map_toArray, List.map_cons, List.map_nil]); first | done | rfl | (simp only [List.length_drop, List.length_take]; rfl)) ?_; (with_reducible refine (laws_big.calls _ _ l0 false _ ?side1 ?side2 A2.out).mono ?_); (case side1 => repeat (first | exact HR0.out | (with_reducible refine Kd.C_alloc ?_ _) | (with_reducible refine Kd.C_drewN ?_ _) | (with_reducible refine Kd.C_drew ?_))); (case side2 => exact HC0.out); rintro e w' ⟨rfl, ⟨nd, rfl⟩⟩; refine ⟨_, rfl, ?_⟩) | ((with_reducible refine gate_callee (f := 28) rfl ?_); refine goesL_ (some 14) rfl rfl Try.func28 (by kernel_rfl) rfl #[.slice A0 l0.length c0] rfl (by (try simp only [List.map_toArray, List.map_cons, List.map_nil]); first | done | rfl | (simp only [List.length_drop, List.length_take]; rfl)) ?_; (with_reducible refine (spec_DrawPoints.calls k _ _ l0 t229 _ ?side1 ?side2 A4.out).mono ?_); (case side1 => repeat (first | exact HR0.out | (with_reducible refine Kd.C_alloc ?_ _) | (with_reducible refine Kd.C_drewN ?_ _) | (with_reducible refine Kd.C_drew ?_))); (case side2 => exact HC0.out); rintro e w11 ⟨v230, rfl, ho0, hb⟩; refine ⟨_, rfl, ?_⟩; have n0_ := Aside0.mk (Kd.R_lower ho0 (below_size (by repeat (first | (with_reducible first | exact HB.out | apply below_alloc | apply pw_below_drewN | apply below_drew1) | exact HB.out)))); have n1_ := Aside0.mk (below_step (by repeat (first | (with_reducible first | exact HB.out | apply below_alloc | apply pw_below_drewN | apply below_drew1) | exact HB.out)) hb); clear HB; have HO231 := n0_; have HB := n1_; clear n0_ n1_; (try clear hb); (try clear hb2); (try clear hk); (try clear hi); (try clear ho0); obtain ⟨Ao12, co12, eo12⟩ := Kd.R_slice HO231.out; subst eo12; have p232 : 0 ≤ (0 : Int) := (by omega); have q232 : 0 < (t229.length : Int) := of_decide_eq_true (by first | (with_reducible assumption) | assumption); obtain ⟨ad232, e232, hx232_0, hx232_1⟩ := at_T34 (Kd.R_reads' HO231.out).2.2 0 p232 q232; cases e232; have qi232 : (0 < t229.length) = True := eq_true (by omega); (try rw [show ((0 : Int)).toNat = 0 from rfl] at hx232_0); (try rw [show 0 * 2 = 0 from rfl] at hx232_0); (try rw [Addr.add_zero'] at hx232_0); (try rw [show ((0 : Int)).toNat = 0 from rfl] at hx232_1); (try rw [show 0 * 2 = 0 from rfl] at hx232_1); (try rw [Addr.add_zero'] at hx232_1); replace p232 := eq_true p232; replace q232 := eq_true q232) | ((with_reducible refine gate_dst (N := 4) rfl ?_); refine box_event ?hg (N := 4) ?hd (cs := #[.int .i64 0, .int .i64 0]) (t := 34) ?hr ?_; (case hd => rfl); (case hg => rfl); (case hr => first | (go_simp; done) | (go_simp; rfl)); intro gb233 hg w13 hbox hb; have n0_ := Aside0.mk (Kd.R_below (Kd.R_elderB (by (with_reducible repeat (first | apply Kd.R_alloc | apply Kd.R_drewN | apply Kd.R_drew)); exact HO231.out) gb233 (Nat.le_of_eq hg.symm)) hb); have n1_ := Aside0.mk (below_step (by repeat (first | (with_reducible first | exact HB.out | apply below_alloc | apply pw_below_drewN | apply below_drew1) | exact HB.out)) hb); have n2_ := Aside0.mk (hbox); have n3_ := Aside0.mk ((by rw [hg]; exact (below_size (by repeat (first | (with_reducible first | exact HB.out | apply below_alloc | apply pw_below_drewN | apply below_drew1) | exact HB.out))) : w.heap.size ≤ gb233)); have n4_ := Aside0.mk ((by rw [hg]; exact (below_size (by repeat (first | (with_reducible first | exact HB.out | apply below_alloc | apply pw_below_drewN | apply below_drew1) | exact HB.out))) : w.heap.size ≤ gb233)); clear HO231; clear HB; have HO231 := n0_; have HB := n1_; have BK233 := n2_; have GW233 := n3_; have GE233 := n4_; clear n0_ n1_ n2_ n3_ n4_; clear hb hbox hg; have hcz14_0 : w13.cell? ⟨gb233, 0, none⟩ = some (.int .i64 0) := (blk_cell BK233.out 0).trans rfl; have hcz14_1 : w13.cell? ⟨gb233, 1, none⟩ = some (.int .i64 0) := (blk_cell BK233.out 1).trans rfl; have hfz14_0 := blk_frozen BK233.out 0; have hfz14_1 := blk_frozen BK233.out 1; have p234 : 0 ≤ (1 : Int) := (by omega); have q234 : 1 < (t229.length : Int) := of_decide_eq_true (by first | (with_reducible assumption) | assumption); obtain ⟨ad234, e234, hx234_0, hx234_1⟩ := at_T34 (Kd.R_reads' HO231.out).2.2 1 p234 q234; obtain rfl : ad232 = ad234 := (by injection e234); (try simp only [show (1 : Int).toNat = 1 from rfl, Nat.reduceMul, Nat.reduceEqDiff, Go.Addr.add, ↓reduceIte] at hx234_0); (try simp only [show (1 : Int).toNat = 1 from rfl, Nat.reduceMul, Nat.reduceEqDiff, Go.Addr.add, ↓reduceIte] at hx234_1); have qi234 : (1 < t229.length) = True := eq_true (by omega); (try rw [show ((1 : Int)).toNat = 1 from rfl] at hx234_0); (try rw [show 1 * 2 = 2 from rfl] at hx234_0); (try rw [show ((1 : Int)).toNat = 1 from rfl] at hx234_1); (try rw [show 1 * 2 = 2 from rfl] at hx234_1); have hn234_0 : ad232.block ≠ gb233 := Kd.own_blk (Name.nb HO231.out (by simp)); have hn234_1 : ad232.block ≠ gb233 := Kd.own_blk (Name.nb HO231.out (by simp)); replace hx234_0 := (cell_far (p := ⟨gb233, 0, none⟩) (by first | (rw [add_block]; exact hn234_0) | (show (Addr.add _ _).block ≠ _; rw [add_block]; exact hn234_0) | exact hn234_0) (.int .i64 ((rd_T34 t229 0).f0))).trans hx234_0; replace hx234_1 := (cell_far (p := ⟨gb233, 0, none⟩) (by first | (rw [add_block]; exact hn234_0) | (show (Addr.add _ _).block ≠ _; rw [add_block]; exact hn234_0) | exact hn234_0) (.int .i64 ((rd_T34 t229 0).f0))).trans hx234_1; replace hx234_0 := (cell_far (p := ⟨gb233, 1, none⟩) (by first | (rw [add_block]; exact hn234_1) | (show (Addr.add _ _).block ≠ _; rw [add_block]; exact hn234_1) | exact hn234_1) (.int .i64 ((rd_T34 t229 0).f1))).trans hx234_0; replace hx234_1 := (cell_far (p := ⟨gb233, 1, none⟩) (by first | (rw [add_block]; exact hn234_1) | (show (Addr.add _ _).block ≠ _; rw [add_block]; exact hn234_1) | exact hn234_1) (.int .i64 ((rd_T34 t229 0).f1))).trans hx234_1; clear hn234_0; clear hn234_1; replace p234 := eq_true p234; replace q234 := eq_true q234) | ((with_reducible refine gate_dst (N := 5) rfl ?_); refine box_event ?hg (N := 5) ?hd (cs := #[.int .i64 0, .int .i64 0]) (t := 34) ?hr ?_; (case hd => rfl); (case hg => rfl); (case hr => first | (go_simp; done) | (go_simp; rfl)); intro gb235 hg w15 hbox hb; have n0_ := Aside0.mk (Kd.R_below (Kd.R_elderB (by (with_reducible repeat (first | apply Kd.R_alloc | apply Kd.R_drewN | apply Kd.R_drew)); exact (Kd.R_mono (Kd.R_far (p := ⟨gb233, 1, none⟩) (Kd.R_far (p := ⟨gb233, 0, none⟩) (Kd.R_mono HO231.out (fun k_ hk => (⟨hk, hk.2⟩ : _ ∧ k_ ≠ gb233))) (fun _ hk => hk.2) (.int .i64 ((rd_T34 t229 0).f0))) (fun _ hk => hk.2) (.int .i64 ((rd_T34 t229 0).f1))) (fun _ h_ => h_.1))) gb235 (Nat.le_of_eq hg.symm)) hb); have n1_ := Aside0.mk (blk_below (g := gb233) (o := .cells #[.int .i64 ((rd_T34 t229 0).f0), .int .i64 ((rd_T34 t229 0).f1)] 34 (0, 0)) (by (with_reducible repeat (first | refine blk_drewN ?_ _ | refine blk_drew ?_ | refine blk_alloc ?_ _)); refine blk_put (cs := #[.int .i64 ((rd_T34 t229 0).f0), .int .i64 0]) ?_ 1 _ rfl; (with_reducible repeat (first | refine blk_drewN ?_ _ | refine blk_drew ?_ | refine blk_alloc ?_ _)); refine blk_put (cs := #[.int .i64 0, .int .i64 0]) ?_ 0 _ rfl; (with_reducible repeat (first | refine blk_drewN ?_ _ | refine blk_drew ?_ | refine blk_alloc ?_ _)); exact BK233.out) hb); have n2_ := Aside0.mk (below_step (by repeat (first | (with_reducible first | exact HB.out | apply below_alloc | apply pw_below_drewN | apply below_drew1 | refine below_set ?_ GE233.out) | exact HB.out)) hb); have n3_ := Aside0.mk (hbox); have n4_ := Aside0.mk ((by rw [hg]; exact (below_size (by repeat (first | (with_reducible first | exact HB.out | apply below_alloc | apply pw_below_drewN | apply below_drew1 | refine below_set ?_ GE233.out) | exact HB.out))) : w.heap.size ≤ gb235)); have n5_ := Aside0.mk ((by rw [hg]; exact (below_size (by repeat (first | (with_reducible first | exact HB.out | apply below_alloc | apply pw_below_drewN | apply below_drew1 | refine below_set ?_ GE233.out) | exact HB.out))) : w.heap.size ≤ gb235)); have n6_ := Aside0.mk ((by rw [hg]; exact Nat.ne_of_lt (blk_lt (g := gb233) (o := .cells #[.int .i64 ((rd_T34 t229 0).f0), .int .i64 ((rd_T34 t229 0).f1)] 34 (0, 0)) (by (with_reducible repeat (first | refine blk_drewN ?_ _ | refine blk_drew ?_ | refine blk_alloc ?_ _)); refine blk_put (cs := #[.int .i64 ((rd_T34 t229 0).f0), .int .i64 0]) ?_ 1 _ rfl; (with_reducible repeat (first | refine blk_drewN ?_ _ | refine blk_drew ?_ | refine blk_alloc ?_ _)); refine blk_put (cs := #[.int .i64 0, .int .i64 0]) ?_ 0 _ rfl; (with_reducible repeat (first | refine blk_drewN ?_ _ | refine blk_drew ?_ | refine blk_alloc ?_ _)); exact BK233.out)) : gb233 ≠ gb235)); have n7_ := Aside0.mk ((by rw [hg]; exact Nat.ne_of_gt (blk_lt (g := gb233) (o := .cells #[.int .i64 ((rd_T34 t229 0).f0), .int .i64 ((rd_T34 t229 0).f1)] 34 (0, 0)) (by (with_reducible repeat (first | refine blk_drewN ?_ _ | refine blk_drew ?_ | refine blk_alloc ?_ _)); refine blk_put (cs := #[.int .i64 ((rd_T34 t229 0).f0), .int .i64 0]) ?_ 1 _ rfl; (with_reducible repeat (first | refine blk_drewN ?_ _ | refine blk_drew ?_ | refine blk_alloc ?_ _)); refine blk_put (cs := #[.int .i64 0, .int .i64 0]) ?_ 0 _ rfl; (with_reducible repeat (first | refine blk_drewN ?_ _ | refine blk_drew ?_ | refine blk_alloc ?_ _)); exact BK233.out)) : gb235 ≠ gb233)); clear HO231; clear BK233; clear HB; have HO231 := n0_; have BK233 := n1_; have HB := n2_; have BK235 := n3_; have GW235 := n4_; have GE235 := n5_; have NB233_235 := n6_; have NB235_233 := n7_; clear n0_ n1_ n2_ n3_ n4_ n5_ n6_ n7_; clear hb hbox hg; have hnb16 := NB235_233.out; have hnc16 := NB233_235.out; have hcz17_0 : w15.cell? ⟨gb235, 0, none⟩ = some (.int .i64 0) := (blk_cell BK235.out 0).trans rfl; have hcz17_1 : w15.cell? ⟨gb235, 1, none⟩ = some (.int .i64 0) := (blk_cell BK235.out 1).trans rfl; have hfz17_0 := blk_frozen BK235.out 0; have hfz17_1 := blk_frozen BK235.out 1; have p236 : 0 ≤ (2 : Int) := (by omega); have q236 : 2 < (t229.length : Int) := of_decide_eq_true (by first | (with_reducible assumption) | assumption); obtain ⟨ad236, e236, hx236_0, hx236_1⟩ := at_T34 (Kd.R_reads' HO231.out).2.2 2 p236 q236; obtain rfl : ad232 = ad236 := (by injection e236); (try simp only [show (2 : Int).toNat = 2 from rfl, Nat.reduceMul, Nat.reduceEqDiff, Go.Addr.add, ↓reduceIte] at hx236_0); (try simp only [show (2 : Int).toNat = 2 from rfl, Nat.reduceMul, Nat.reduceEqDiff, Go.Addr.add, ↓reduceIte] at hx236_1); have qi236 : (2 < t229.length) = True := eq_true (by omega); (try rw [show ((2 : Int)).toNat = 2 from rfl] at hx236_0); (try rw [show 2 * 2 = 4 from rfl] at hx236_0); (try rw [show ((2 : Int)).toNat = 2 from rfl] at hx236_1); (try rw [show 2 * 2 = 4 from rfl] at hx236_1); have hn236_0 : ad232.block ≠ gb235 := Kd.own_blk (Name.nb HO231.out (by simp)); have hn236_1 : ad232.block ≠ gb235 := Kd.own_blk (Name.nb HO231.out (by simp)); replace hx236_0 := (cell_far (p := ⟨gb235, 0, none⟩) (by first | (rw [add_block]; exact hn236_0) | (show (Addr.add _ _).block ≠ _; rw [add_block]; exact hn236_0) | exact hn236_0) (.int .i64 ((rd_T34 t229 1).f0))).trans hx236_0; replace hx236_1 := (cell_far (p := ⟨gb235, 0, none⟩) (by first | (rw [add_block]; exact hn236_0) | (show (Addr.add _ _).block ≠ _; rw [add_block]; exact hn236_0) | exact hn236_0) (.int .i64 ((rd_T34 t229 1).f0))).trans hx236_1; replace hx236_0 := (cell_far (p := ⟨gb235, 1, none⟩) (by first | (rw [add_block]; exact hn236_1) | (show (Addr.add _ _).block ≠ _; rw [add_block]; exact hn236_1) | exact hn236_1) (.int .i64 ((rd_T34 t229 1).f1))).trans hx236_0; replace hx236_1 := (cell_far (p := ⟨gb235, 1, none⟩) (by first | (rw [add_block]; exact hn236_1) | (show (Addr.add _ _).block ≠ _; rw [add_block]; exact hn236_1) | exact hn236_1) (.int .i64 ((rd_T34 t229 1).f1))).trans hx236_1; clear hn236_0; clear hn236_1; replace p236 := eq_true p236; replace q236 := eq_true q236) | ((with_reducible refine gate_dst (N := 6) rfl ?_); refine box_event ?hg (N := 6) ?hd (cs := #[.int .i64 0, .int .i64 0]) (t := 34) ?hr ?_; (case hd => rfl); (case hg => rfl); (case hr => first | (go_simp; done) | (go_simp; rfl)); intro gb237 hg w18 hbox hb; have n0_ := Aside0.mk (Kd.R_below (Kd.R_elderB (by (with_reducible repeat (first | apply Kd.R_alloc | apply Kd.R_drewN | apply Kd.R_drew)); exact (Kd.R_mono (Kd.R_far (p := ⟨gb235, 1, none⟩) (Kd.R_far (p := ⟨gb235, 0, none⟩) (Kd.R_mono HO231.out (fun k_ hk => (⟨hk, hk.2⟩ : _ ∧ k_ ≠ gb235))) (fun _ hk => hk.2) (.int .i64 ((rd_T34 t229 1).f0))) (fun _ hk => hk.2) (.int .i64 ((rd_T34 t229 1).f1))) (fun _ h_ => h_.1))) gb237 (Nat.le_of_eq hg.symm)) hb); have n1_ := Aside0.mk (blk_below (g := gb233) (o := .cells #[.int .i64 ((rd_T34 t229 0).f0), .int .i64 ((rd_T34 t229 0).f1)] 34 (0, 0)) (by (with_reducible repeat (first | refine blk_drewN ?_ _ | refine blk_drew ?_ | refine blk_alloc ?_ _)); refine blk_far ?_ NB233_235.out _; (with_reducible repeat (first | refine blk_drewN ?_ _ | refine blk_drew ?_ | refine blk_alloc ?_ _)); refine blk_far ?_ NB233_235.out _; (with_reducible repeat (first | refine blk_drewN ?_ _ | refine blk_drew ?_ | refine blk_alloc ?_ _)); exact BK233.out) hb); have n2_ := Aside0.mk (blk_below (g := gb235) (o := .cells #[.int .i64 ((rd_T34 t229 1).f0), .int .i64 ((rd_T34 t229 1).f1)] 34 (0, 0)) (by (with_reducible repeat (first | refine blk_drewN ?_ _ | refine blk_drew ?_ | refine blk_alloc ?_ _)); refine blk_put (cs := #[.int .i64 ((rd_T34 t229 1).f0), .int .i64 0]) ?_ 1 _ rfl; (with_reducible repeat (first | refine blk_drewN ?_ _ | refine blk_drew ?_ | refine blk_alloc ?_ _)); refine blk_put (cs := #[.int .i64 0, .int .i64 0]) ?_ 0 _ rfl; (with_reducible repeat (first | refine blk_drewN ?_ _ | refine blk_drew ?_ | refine blk_alloc ?_ _)); exact BK235.out) hb); have n3_ := Aside0.mk (below_step (by repeat (first | (with_reducible first | exact HB.out | apply below_alloc | apply pw_below_drewN | apply below_drew1 | refine below_set ?_ GE233.out | refine below_set ?_ GE235.out) | exact HB.out)) hb); have n4_ := Aside0.mk (hbox); have n5_ := Aside0.mk ((by rw [hg]; exact (below_size (by repeat (first | (with_reducible first | exact HB.out | apply below_alloc | apply pw_below_drewN | apply below_drew1 | refine below_set ?_ GE233.out | refine below_set ?_ GE235.out) | exact HB.out))) : w.heap.size ≤ gb237)); have n6_ := Aside0.mk ((by rw [hg]; exact (below_size (by repeat (first | (with_reducible first | exact HB.out | apply below_alloc | apply pw_below_drewN | apply below_drew1 | refine below_set ?_ GE233.out | refine below_set ?_ GE235.out) | exact HB.out))) : w.heap.size ≤ gb237)); have n7_ := Aside0.mk ((by rw [hg]; exact Nat.ne_of_lt (blk_lt (g := gb233) (o := .cells #[.int .i64 ((rd_T34 t229 0).f0), .int .i64 ((rd_T34 t229 0).f1)] 34 (0, 0)) (by (with_reducible repeat (first | refine blk_drewN ?_ _ | refine blk_drew ?_ | refine blk_alloc ?_ _)); refine blk_far ?_ NB233_235.out _; (with_reducible repeat (first | refine blk_drewN ?_ _ | refine blk_drew ?_ | refine blk_alloc ?_ _)); refine blk_far ?_ NB233_235.out _; (with_reducible repeat (first | refine blk_drewN ?_ _ | refine blk_drew ?_ | refine blk_alloc ?_ _)); exact BK233.out)) : gb233 ≠ gb237)); have n8_ := Aside0.mk ((by rw [hg]; exact Nat.ne_of_gt (blk_lt (g := gb233) (o := .cells #[.int .i64 ((rd_T34 t229 0).f0), .int .i64 ((rd_T34 t229 0).f1)] 34 (0, 0)) (by (with_reducible repeat (first | refine blk_drewN ?_ _ | refine blk_drew ?_ | refine blk_alloc ?_ _)); refine blk_far ?_ NB233_235.out _; (with_reducible repeat (first | refine blk_drewN ?_ _ | refine blk_drew ?_ | refine blk_alloc ?_ _)); refine blk_far ?_ NB233_235.out _; (with_reducible repeat (first | refine blk_drewN ?_ _ | refine blk_drew ?_ | refine blk_alloc ?_ _)); exact BK233.out)) : gb237 ≠ gb233)); have n9_ := Aside0.mk ((by rw [hg]; exact Nat.ne_of_lt (blk_lt (g := gb235) (o := .cells #[.int .i64 ((rd_T34 t229 1).f0), .int .i64 ((rd_T34 t229 1).f1)] 34 (0, 0)) (by (with_reducible repeat (first | refine blk_drewN ?_ _ | refine blk_drew ?_ | refine blk_alloc ?_ _)); refine blk_put (cs := #[.int .i64 ((rd_T34 t229 1).f0), .int .i64 0]) ?_ 1 _ rfl; (with_reducible repeat (first | refine blk_drewN ?_ _ | refine blk_drew ?_ | refine blk_alloc ?_ _)); refine blk_put (cs := #[.int .i64 0, .int .i64 0]) ?_ 0 _ rfl; (with_reducible repeat (first | refine blk_drewN ?_ _ | refine blk_drew ?_ | refine blk_alloc ?_ _)); exact BK235.out)) : gb235 ≠ gb237)); have n10_ := Aside0.mk ((by rw [hg]; exact Nat.ne_of_gt (blk_lt (g := gb235) (o := .cells #[.int .i64 ((rd_T34 t229 1).f0), .int .i64 ((rd_T34 t229 1).f1)] 34 (0, 0)) (by (with_reducible repeat (first | refine blk_drewN ?_ _ | refine blk_drew ?_ | refine blk_alloc ?_ _)); refine blk_put (cs := #[.int .i64 ((rd_T34 t229 1).f0), .int .i64 0]) ?_ 1 _ rfl; (with_reducible repeat (first | refine blk_drewN ?_ _ | refine blk_drew ?_ | refine blk_alloc ?_ _)); refine blk_put (cs := #[.int .i64 0, .int .i64 0]) ?_ 0 _ rfl; (with_reducible repeat (first | refine blk_drewN ?_ _ | refine blk_drew ?_ | refine blk_alloc ?_ _)); exact BK235.out)) : gb237 ≠ gb235)); clear HO231; clear BK233; clear BK235; clear HB; have HO231 := n0_; have BK233 := n1_; have BK235 := n2_; have HB := n3_; have BK237 := n4_; have GW237 := n5_; have GE237 := n6_; have NB233_237 := n7_; have NB237_233 := n8_; have NB235_237 := n9_; have NB237_235 := n10_; clear n0_ n1_ n2_ n3_ n4_ n5_ n6_ n7_ n8_ n9_ n10_; clear hb hbox hg; have hnb19 := NB237_233.out; have hnc19 := NB233_237.out; have hnb20 := NB237_235.out; have hnc20 := NB235_237.out; have hcz21_0 : w18.cell? ⟨gb237, 0, none⟩ = some (.int .i64 0) := (blk_cell BK237.out 0).trans rfl; have hcz21_1 : w18.cell? ⟨gb237, 1, none⟩ = some (.int .i64 0) := (blk_cell BK237.out 1).trans rfl; have hfz21_0 := blk_frozen BK237.out 0; have hfz21_1 := blk_frozen BK237.out 1; have p238 : 0 ≤ (3 : Int) := (by omega); have q238 : 3 < (t229.length : Int) := of_decide_eq_true (by first | (with_reducible assumption) | assumption); obtain ⟨ad238, e238, hx238_0, hx238_1⟩ := at_T34 (Kd.R_reads' HO231.out).2.2 3 p238 q238; obtain rfl : ad232 = ad238 := (by injection e238); (try simp only [show (3 : Int).toNat = 3 from rfl, Nat.reduceMul, Nat.reduceEqDiff, Go.Addr.add, ↓reduceIte] at hx238_0); (try simp only [show (3 : Int).toNat = 3 from rfl, Nat.reduceMul, Nat.reduceEqDiff, Go.Addr.add, ↓reduceIte] at hx238_1); have qi238 : (3 < t229.length) = True := eq_true (by omega); (try rw [show ((3 : Int)).toNat = 3 from rfl] at hx238_0); (try rw [show 3 * 2 = 6 from rfl] at hx238_0); (try rw [show ((3 : Int)).toNat = 3 from rfl] at hx238_1); (try rw [show 3 * 2 = 6 from rfl] at hx238_1); have hn238_0 : ad232.block ≠ gb237 := Kd.own_blk (Name.nb HO231.out (by simp)); have hn238_1 : ad232.block ≠ gb237 := Kd.own_blk (Name.nb HO231.out (by simp)); replace hx238_0 := (cell_far (p := ⟨gb237, 0, none⟩) (by first | (rw [add_block]; exact hn238_0) | (show (Addr.add _ _).block ≠ _; rw [add_block]; exact hn238_0) | exact hn238_0) (.int .i64 ((rd_T34 t229 2).f0))).trans hx238_0; replace hx238_1 := (cell_far (p := ⟨gb237, 0, none⟩) (by first | (rw [add_block]; exact hn238_0) | (show (Addr.add _ _).block ≠ _; rw [add_block]; exact hn238_0) | exact hn238_0) (.int .i64 ((rd_T34 t229 2).f0))).trans hx238_1; replace hx238_0 := (cell_far (p := ⟨gb237, 1, none⟩) (by first | (rw [add_block]; exact hn238_1) | (show (Addr.add _ _).block ≠ _; rw [add_block]; exact hn238_1) | exact hn238_1) (.int .i64 ((rd_T34 t229 2).f1))).trans hx238_0; replace hx238_1 := (cell_far (p := ⟨gb237, 1, none⟩) (by first | (rw [add_block]; exact hn238_1) | (show (Addr.add _ _).block ≠ _; rw [add_block]; exact hn238_1) | exact hn238_1) (.int .i64 ((rd_T34 t229 2).f1))).trans hx238_1; clear hn238_0; clear hn238_1; replace p238 := eq_true p238; replace q238 := eq_true q238) | ((with_reducible refine gate_dst (N := 7) rfl ?_); refine box_event ?hg (N := 7) ?hd (cs := #[.int .i64 0, .int .i64 0]) (t := 34) ?hr ?_; (case hd => rfl); (case hg => rfl); (case hr => first | (go_simp; done) | (go_simp; rfl)); intro gb239 hg w22 hbox hb; have n0_ := Aside0.mk (Kd.R_below (Kd.R_elderB (by (with_reducible repeat (first | apply Kd.R_alloc | apply Kd.R_drewN | apply Kd.R_drew)); exact (Kd.R_mono (Kd.R_far (p := ⟨gb237, 1, none⟩) (Kd.R_far (p := ⟨gb237, 0, none⟩) (Kd.R_mono HO231.out (fun k_ hk => (⟨hk, hk.2⟩ : _ ∧ k_ ≠ gb237))) (fun _ hk => hk.2) (.int .i64 ((rd_T34 t229 2).f0))) (fun _ hk => hk.2) (.int .i64 ((rd_T34 t229 2).f1))) (fun _ h_ => h_.1))) gb239 (Nat.le_of_eq hg.symm)) hb); have n1_ := Aside0.mk (blk_below (g := gb233) (o := .cells #[.int .i64 ((rd_T34 t229 0).f0), .int .i64 ((rd_T34 t229 0).f1)] 34 (0, 0)) (by (with_reducible repeat (first | refine blk_drewN ?_ _ | refine blk_drew ?_ | refine blk_alloc ?_ _)); refine blk_far ?_ NB233_237.out _; (with_reducible repeat (first | refine blk_drewN ?_ _ | refine blk_drew ?_ | refine blk_alloc ?_ _)); refine blk_far ?_ NB233_237.out _; (with_reducible repeat (first | refine blk_drewN ?_ _ | refine blk_drew ?_ | refine blk_alloc ?_ _)); exact BK233.out) hb); have n2_ := Aside0.mk (blk_below (g := gb235) (o := .cells #[.int .i64 ((rd_T34 t229 1).f0), .int .i64 ((rd_T34 t229 1).f1)] 34 (0, 0)) (by (with_reducible repeat (first | refine blk_drewN ?_ _ | refine blk_drew ?_ | refine blk_alloc ?_ _)); refine blk_far ?_ NB235_237.out _; (with_reducible repeat (first | refine blk_drewN ?_ _ | refine blk_drew ?_ | refine blk_alloc ?_ _)); refine blk_far ?_ NB235_237.out _; (with_reducible repeat (first | refine blk_drewN ?_ _ | refine blk_drew ?_ | refine blk_alloc ?_ _)); exact BK235.out) hb); have n3_ := Aside0.mk (blk_below (g := gb237) (o := .cells #[.int .i64 ((rd_T34 t229 2).f0), .int .i64 ((rd_T34 t229 2).f1)] 34 (0, 0)) (by (with_reducible repeat (first | refine blk_drewN ?_ _ | refine blk_drew ?_ | refine blk_alloc ?_ _)); refine blk_put (cs := #[.int .i64 ((rd_T34 t229 2).f0), .int .i64 0]) ?_ 1 _ rfl; (with_reducible repeat (first | refine blk_drewN ?_ _ | refine blk_drew ?_ | refine blk_alloc ?_ _)); refine blk_put (cs := #[.int .i64 0, .int .i64 0]) ?_ 0 _ rfl; (with_reducible repeat (first | refine blk_drewN ?_ _ | refine blk_drew ?_ | refine blk_alloc ?_ _)); exact BK237.out) hb); have n4_ := Aside0.mk (below_step (by repeat (first | (with_reducible first | exact HB.out | apply below_alloc | apply pw_below_drewN | apply below_drew1 | refine below_set ?_ GE233.out | refine below_set ?_ GE235.out | refine below_set ?_ GE237.out) | exact HB.out)) hb); have n5_ := Aside0.mk (hbox); have n6_ := Aside0.mk ((by rw [hg]; exact (below_size (by repeat (first | (with_reducible first | exact HB.out | apply below_alloc | apply pw_below_drewN | apply below_drew1 | refine below_set ?_ GE233.out | refine below_set ?_ GE235.out | refine below_set ?_ GE237.out) | exact HB.out))) : w.heap.size ≤ gb239)); have n7_ := Aside0.mk ((by rw [hg]; exact (below_size (by repeat (first | (with_reducible first | exact HB.out | apply below_alloc | apply pw_below_drewN | apply below_drew1 | refine below_set ?_ GE233.out | refine below_set ?_ GE235.out | refine below_set ?_ GE237.out) | exact HB.out))) : w.heap.size ≤ gb239)); have n8_ := Aside0.mk ((by rw [hg]; exact Nat.ne_of_lt (blk_lt (g := gb233) (o := .cells #[.int .i64 ((rd_T34 t229 0).f0), .int .i64 ((rd_T34 t229 0).f1)] 34 (0, 0)) (by (with_reducible repeat (first | refine blk_drewN ?_ _ | refine blk_drew ?_ | refine blk_alloc ?_ _)); refine blk_far ?_ NB233_237.out _; (with_reducible repeat (first | refine blk_drewN ?_ _ | refine blk_drew ?_ | refine blk_alloc ?_ _)); refine blk_far ?_ NB233_237.out _; (with_reducible repeat (first | refine blk_drewN ?_ _ | refine blk_drew ?_ | refine blk_alloc ?_ _)); exact BK233.out)) : gb233 ≠ gb239)); have n9_ := Aside0.mk ((by rw [hg]; exact Nat.ne_of_gt (blk_lt (g := gb233) (o := .cells #[.int .i64 ((rd_T34 t229 0).f0), .int .i64 ((rd_T34 t229 0).f1)] 34 (0, 0)) (by (with_reducible repeat (first | refine blk_drewN ?_ _ | refine blk_drew ?_ | refine blk_alloc ?_ _)); refine blk_far ?_ NB233_237.out _; (with_reducible repeat (first | refine blk_drewN ?_ _ | refine blk_drew ?_ | refine blk_alloc ?_ _)); refine blk_far ?_ NB233_237.out _; (with_reducible repeat (first | refine blk_drewN ?_ _ | refine blk_drew ?_ | refine blk_alloc ?_ _)); exact BK233.out)) : gb239 ≠ gb233)); have n10_ := Aside0.mk ((by rw [hg]; exact Nat.ne_of_lt (blk_lt (g := gb235) (o := .cells #[.int .i64 ((rd_T34 t229 1).f0), .int .i64 ((rd_T34 t229 1).f1)] 34 (0, 0)) (by (with_reducible repeat (first | refine blk_drewN ?_ _ | refine blk_drew ?_ | refine blk_alloc ?_ _)); refine blk_far ?_ NB235_237.out _; (with_reducible repeat (first | refine blk_drewN ?_ _ | refine blk_drew ?_ | refine blk_alloc ?_ _)); refine blk_far ?_ NB235_237.out _; (with_reducible repeat (first | refine blk_drewN ?_ _ | refine blk_drew ?_ | refine blk_alloc ?_ _)); exact BK235.out)) : gb235 ≠ gb239)); have n11_ := Aside0.mk ((by rw [hg]; exact Nat.ne_of_gt (blk_lt (g := gb235) (o := .cells #[.int .i64 ((rd_T34 t229 1).f0), .int .i64 ((rd_T34 t229 1).f1)] 34 (0, 0)) (by (with_reducible repeat (first | refine blk_drewN ?_ _ | refine blk_drew ?_ | refine blk_alloc ?_ _)); refine blk_far ?_ NB235_237.out _; (with_reducible repeat (first | refine blk_drewN ?_ _ | refine blk_drew ?_ | refine blk_alloc ?_ _)); refine blk_far ?_ NB235_237.out _; (with_reducible repeat (first | refine blk_drewN ?_ _ | refine blk_drew ?_ | refine blk_alloc ?_ _)); exact BK235.out)) : gb239 ≠ gb235)); have n12_ := Aside0.mk ((by rw [hg]; exact Nat.ne_of_lt (blk_lt (g := gb237) (o := .cells #[.int .i64 ((rd_T34 t229 2).f0), .int .i64 ((rd_T34 t229 2).f1)] 34 (0, 0)) (by (with_reducible repeat (first | refine blk_drewN ?_ _ | refine blk_drew ?_ | refine blk_alloc ?_ _)); refine blk_put (cs := #[.int .i64 ((rd_T34 t229 2).f0), .int .i64 0]) ?_ 1 _ rfl; (with_reducible repeat (first | refine blk_drewN ?_ _ | refine blk_drew ?_ | refine blk_alloc ?_ _)); refine blk_put (cs := #[.int .i64 0, .int .i64 0]) ?_ 0 _ rfl; (with_reducible repeat (first | refine blk_drewN ?_ _ | refine blk_drew ?_ | refine blk_alloc ?_ _)); exact BK237.out)) : gb237 ≠ gb239)); have n13_ := Aside0.mk ((by rw [hg]; exact Nat.ne_of_gt (blk_lt (g := gb237) (o := .cells #[.int .i64 ((rd_T34 t229 2).f0), .int .i64 ((rd_T34 t229 2).f1)] 34 (0, 0)) (by (with_reducible repeat (first | refine blk_drewN ?_ _ | refine blk_drew ?_ | refine blk_alloc ?_ _)); refine blk_put (cs := #[.int .i64 ((rd_T34 t229 2).f0), .int .i64 0]) ?_ 1 _ rfl; (with_reducible repeat (first | refine blk_drewN ?_ _ | refine blk_drew ?_ | refine blk_alloc ?_ _)); refine blk_put (cs := #[.int .i64 0, .int .i64 0]) ?_ 0 _ rfl; (with_reducible repeat (first | refine blk_drewN ?_ _ | refine blk_drew ?_ | refine blk_alloc ?_ _)); exact BK237.out)) : gb239 ≠ gb237)); clear HO231; clear BK233; clear BK235; clear BK237; clear HB; have HO231 := n0_; have BK233 := n1_; have BK235 := n2_; have BK237 := n3_; have HB := n4_; have BK239 := n5_; have GW239 := n6_; have GE239 := n7_; have NB233_239 := n8_; have NB239_233 := n9_; have NB235_239 := n10_; have NB239_235 := n11_; have NB237_239 := n12_; have NB239_237 := n13_; clear n0_ n1_ n2_ n3_ n4_ n5_ n6_ n7_ n8_ n9_ n10_ n11_ n12_ n13_; clear hb hbox hg; have hnb23 := NB239_233.out; have hnc23 := NB233_239.out; have hnb24 := NB239_235.out; have hnc24 := NB235_239.out; have hnb25 := NB239_237.out; have hnc25 := NB237_239.out; have hcz26_0 : w22.cell? ⟨gb239, 0, none⟩ = some (.int .i64 0) := (blk_cell BK239.out 0).trans rfl; have hcz26_1 : w22.cell? ⟨gb239, 1, none⟩ = some (.int .i64 0) := (blk_cell BK239.out 1).trans rfl; have hfz26_0 := blk_frozen BK239.out 0; have hfz26_1 := blk_frozen BK239.out 1; have hcz27_0 : w22.cell? ⟨gb233, 0, none⟩ = some (.int .i64 ((rd_T34 t229 0).f0)) := (blk_cell BK233.out 0).trans rfl; have hcz27_1 : w22.cell? ⟨gb233, 1, none⟩ = some (.int .i64 ((rd_T34 t229 0).f1)) := (blk_cell BK233.out 1).trans rfl; have hfz27_0 := blk_frozen BK233.out 0; have hfz27_1 := blk_frozen BK233.out 1; have hcz28_0 : w22.cell? ⟨gb235, 0, none⟩ = some (.int .i64 ((rd_T34 t229 1).f0)) := (blk_cell BK235.out 0).trans rfl; have hcz28_1 : w22.cell? ⟨gb235, 1, none⟩ = some (.int .i64 ((rd_T34 t229 1).f1)) := (blk_cell BK235.out 1).trans rfl; have hfz28_0 := blk_frozen BK235.out 0; have hfz28_1 := blk_frozen BK235.out 1; have hcz29_0 : w22.cell? ⟨gb237, 0, none⟩ = some (.int .i64 ((rd_T34 t229 2).f0)) := (blk_cell BK237.out 0).trans rfl; have hcz29_1 : w22.cell? ⟨gb237, 1, none⟩ = some (.int .i64 ((rd_T34 t229 2).f1)) := (blk_cell BK237.out 1).trans rfl; have hfz29_0 := blk_frozen BK237.out 0; have hfz29_1 := blk_frozen BK237.out 1) | ((with_reducible refine gate_dst (N := 30) rfl ?_); refine Kd.R_lit k34 _ 34 ?hg (N := 30) ?hd (xs := ([(⟨(rd_T34 t229 0).f0, (rd_T34 t229 0).f1⟩ : S34), (⟨(rd_T34 t229 1).f0, (rd_T34 t229 1).f1⟩ : S34), (⟨(rd_T34 t229 2).f0, (rd_T34 t229 2).f1⟩ : S34)] : List (S34))) (inner := [.int .i64 ((rd_T34 t229 0).f0), .int .i64 ((rd_T34 t229 0).f1), .int .i64 ((rd_T34 t229 1).f0), .int .i64 ((rd_T34 t229 1).f1), .int .i64 ((rd_T34 t229 2).f0), .int .i64 ((rd_T34 t229 2).f1)]) (ok := fun _ => True) (okp := fun _ => True) ?hr ?hp (fun _ hk => hk) trivial (Below.refl _ _) (Nat.le_refl _) (by simp) ?_; (case hd => rfl); (case hg => rfl); (case hr => first | (go_simp; done) | (go_simp; rfl)); (case hp => exact (Reps.c2 (show Kd.M k34 _ _ _ (⟨(rd_T34 t229 0).f0, (rd_T34 t229 0).f1⟩ : S34) [.int .i64 ((rd_T34 t229 0).f0), .int .i64 ((rd_T34 t229 0).f1)] from (k34_mkM _ _ _ (⟨(rd_T34 t229 0).f0, (rd_T34 t229 0).f1⟩ : S34) )) (Reps.c2 (show Kd.M k34 _ _ _ (⟨(rd_T34 t229 1).f0, (rd_T34 t229 1).f1⟩ : S34) [.int .i64 ((rd_T34 t229 1).f0), .int .i64 ((rd_T34 t229 1).f1)] from (k34_mkM _ _ _ (⟨(rd_T34 t229 1).f0, (rd_T34 t229 1).f1⟩ : S34) )) (Reps.c2 (show Kd.M k34 _ _ _ (⟨(rd_T34 t229 2).f0, (rd_T34 t229 2).f1⟩ : S34) [.int .i64 ((rd_T34 t229 2).f0), .int .i64 ((rd_T34 t229 2).f1)] from (k34_mkM _ _ _ (⟨(rd_T34 t229 2).f0, (rd_T34 t229 2).f1⟩ : S34) )) (Reps.none _ _))))); intro v241 w30 ho31 hb hg_ hnew_; clear hg_ hnew_; (first | rw [← Ny240.out] at ho31 | (simp only [Int.reduceToNat] at ho31; rw [← Ny240.out] at ho31)); have n0_ := Aside0.mk (Kd.R_elder' (by (with_reducible repeat (first | apply Kd.R_alloc | apply Kd.R_drewN | apply Kd.R_drew)); exact (Kd.R_mono (Kd.R_far (p := ⟨gb239, 1, none⟩) (Kd.R_far (p := ⟨gb239, 0, none⟩) (Kd.R_mono HO231.out (fun k_ hk => (⟨hk, hk.2⟩ : _ ∧ k_ ≠ gb239))) (fun _ hk => hk.2) (.int .i64 ((rd_T34 t229 3).f0))) (fun _ hk => hk.2) (.int .i64 ((rd_T34 t229 3).f1))) (fun _ h_ => h_.1))) (Kd.R_base ho31) hb); have n1_ := Aside0.mk (Kd.R_lower (Kd.R_newB (Kd.R_newB (Kd.R_newB (Kd.R_newB (Kd.R_new' ho31 (Kd.R_lt (by (with_reducible repeat (first | apply Kd.R_alloc | apply Kd.R_drewN | apply Kd.R_drew)); exact (Kd.R_mono (Kd.R_far (p := ⟨gb239, 1, none⟩) (Kd.R_far (p := ⟨gb239, 0, none⟩) (Kd.R_mono HO231.out (fun k_ hk => (⟨hk, hk.2⟩ : _ ∧ k_ ≠ gb239))) (fun _ hk => hk.2) (.int .i64 ((rd_T34 t229 3).f0))) (fun _ hk => hk.2) (.int .i64 ((rd_T34 t229 3).f1))) (fun _ h_ => h_.1))))) (g := gb233) (o := .cells #[.int .i64 ((rd_T34 t229 0).f0), .int .i64 ((rd_T34 t229 0).f1)] 34 (0, 0)) (by (with_reducible repeat (first | refine blk_drewN ?_ _ | refine blk_drew ?_ | refine blk_alloc ?_ _)); refine blk_far ?_ NB233_239.out _; (with_reducible repeat (first | refine blk_drewN ?_ _ | refine blk_drew ?_ | refine blk_alloc ?_ _)); refine blk_far ?_ NB233_239.out _; (with_reducible repeat (first | refine blk_drewN ?_ _ | refine blk_drew ?_ | refine blk_alloc ?_ _)); exact BK233.out)) (g := gb235) (o := .cells #[.int .i64 ((rd_T34 t229 1).f0), .int .i64 ((rd_T34 t229 1).f1)] 34 (0, 0)) (by (with_reducible repeat (first | refine blk_drewN ?_ _ | refine blk_drew ?_ | refine blk_alloc ?_ _)); refine blk_far ?_ NB235_239.out _; (with_reducible repeat (first | refine blk_drewN ?_ _ | refine blk_drew ?_ | refine blk_alloc ?_ _)); refine blk_far ?_ NB235_239.out _; (with_reducible repeat (first | refine blk_drewN ?_ _ | refine blk_drew ?_ | refine blk_alloc ?_ _)); exact BK235.out)) (g := gb237) (o := .cells #[.int .i64 ((rd_T34 t229 2).f0), .int .i64 ((rd_T34 t229 2).f1)] 34 (0, 0)) (by (with_reducible repeat (first | refine blk_drewN ?_ _ | refine blk_drew ?_ | refine blk_alloc ?_ _)); refine blk_far ?_ NB237_239.out _; (with_reducible repeat (first | refine blk_drewN ?_ _ | refine blk_drew ?_ | refine blk_alloc ?_ _)); refine blk_far ?_ NB237_239.out _; (with_reducible repeat (first | refine blk_drewN ?_ _ | refine blk_drew ?_ | refine blk_alloc ?_ _)); exact BK237.out)) (g := gb239) (o := .cells #[.int .i64 ((rd_T34 t229 3).f0), .int .i64 ((rd_T34 t229 3).f1)] 34 (0, 0)) (by (with_reducible repeat (first | refine blk_drewN ?_ _ | refine blk_drew ?_ | refine blk_alloc ?_ _)); refine blk_put (cs := #[.int .i64 ((rd_T34 t229 3).f0), .int .i64 0]) ?_ 1 _ rfl; (with_reducible repeat (first | refine blk_drewN ?_ _ | refine blk_drew ?_ | refine blk_alloc ?_ _)); refine blk_put (cs := #[.int .i64 0, .int .i64 0]) ?_ 0 _ rfl; (with_reducible repeat (first | refine blk_drewN ?_ _ | refine blk_drew ?_ | refine blk_alloc ?_ _)); exact BK239.out)) (below_size (by repeat (first | (with_reducible first | exact HB.out | apply below_alloc | apply pw_below_drewN | apply below_drew1 | refine below_set ?_ GE233.out | refine below_set ?_ GE235.out | refine below_set ?_ GE237.out | refine below_set ?_ GE239.out) | exact HB.out)))); have n2_ := Aside0.mk (blk_below (g := gb233) (o := .cells #[.int .i64 ((rd_T34 t229 0).f0), .int .i64 ((rd_T34 t229 0).f1)] 34 (0, 0)) (by (with_reducible repeat (first | refine blk_drewN ?_ _ | refine blk_drew ?_ | refine blk_alloc ?_ _)); refine blk_far ?_ NB233_239.out _; (with_reducible repeat (first | refine blk_drewN ?_ _ | refine blk_drew ?_ | refine blk_alloc ?_ _)); refine blk_far ?_ NB233_239.out _; (with_reducible repeat (first | refine blk_drewN ?_ _ | refine blk_drew ?_ | refine blk_alloc ?_ _)); exact BK233.out) hb); have n3_ := Aside0.mk (blk_below (g := gb235) (o := .cells #[.int .i64 ((rd_T34 t229 1).f0), .int .i64 ((rd_T34 t229 1).f1)] 34 (0, 0)) (by (with_reducible repeat (first | refine blk_drewN ?_ _ | refine blk_drew ?_ | refine blk_alloc ?_ _)); refine blk_far ?_ NB235_239.out _; (with_reducible repeat (first | refine blk_drewN ?_ _ | refine blk_drew ?_ | refine blk_alloc ?_ _)); refine blk_far ?_ NB235_239.out _; (with_reducible repeat (first | refine blk_drewN ?_ _ | refine blk_drew ?_ | refine blk_alloc ?_ _)); exact BK235.out) hb); have n4_ := Aside0.mk (blk_below (g := gb237) (o := .cells #[.int .i64 ((rd_T34 t229 2).f0), .int .i64 ((rd_T34 t229 2).f1)] 34 (0, 0)) (by (with_reducible repeat (first | refine blk_drewN ?_ _ | refine blk_drew ?_ | refine blk_alloc ?_ _)); refine blk_far ?_ NB237_239.out _; (with_reducible repeat (first | refine blk_drewN ?_ _ | refine blk_drew ?_ | refine blk_alloc ?_ _)); refine blk_far ?_ NB237_239.out _; (with_reducible repeat (first | refine blk_drewN ?_ _ | refine blk_drew ?_ | refine blk_alloc ?_ _)); exact BK237.out) hb); have n5_ := Aside0.mk (blk_below (g := gb239) (o := .cells #[.int .i64 ((rd_T34 t229 3).f0), .int .i64 ((rd_T34 t229 3).f1)] 34 (0, 0)) (by (with_reducible repeat (first | refine blk_drewN ?_ _ | refine blk_drew ?_ | refine blk_alloc ?_ _)); refine blk_put (cs := #[.int .i64 ((rd_T34 t229 3).f0), .int .i64 0]) ?_ 1 _ rfl; (with_reducible repeat (first | refine blk_drewN ?_ _ | refine blk_drew ?_ | refine blk_alloc ?_ _)); refine blk_put (cs := #[.int .i64 0, .int .i64 0]) ?_ 0 _ rfl; (with_reducible repeat (first | refine blk_drewN ?_ _ | refine blk_drew ?_ | refine blk_alloc ?_ _)); exact BK239.out) hb); have n6_ := Aside0.mk (below_step (by repeat (first | (with_reducible first | exact HB.out | apply below_alloc | apply pw_below_drewN | apply below_drew1 | refine below_set ?_ GE233.out | refine below_set ?_ GE235.out | refine below_set ?_ GE237.out | refine below_set ?_ GE239.out) | exact HB.out)) hb); clear HO231; clear BK233; clear BK235; clear BK237; clear BK239; clear HB; have HO231 := n0_; have HO242 := n1_; have BK233 := n2_; have BK235 := n3_; have BK237 := n4_; have BK239 := n5_; have HB := n6_; clear n0_ n1_ n2_ n3_ n4_ n5_ n6_; clear hb ho31; obtain ⟨Ao32, co32, eo32⟩ := Kd.R_slice HO242.out; subst eo32) | ((with_reducible refine gate_callee (f := 29) rfl ?_); refine goesL_ (some 31) rfl rfl Try.func29 (by kernel_rfl) rfl #[.slice Ao32 y240.length co32] rfl (by (try simp only [List.map_toArray, List.map_cons, List.map_nil]); first | done | rfl | (simp only [List.length_drop, List.length_take]; rfl)) ?_; (with_reducible refine (spec_BoxOf.calls k _ _ y240 t243 t244 t245 t246 _ ?side1 ?side2 A9.out).mono ?_); (case side1 => repeat (first | exact (Kd.R_reads' HO242.out).2.2 | (with_reducible refine Kd.C_alloc ?_ _) | (with_reducible refine Kd.C_drewN ?_ _) | (with_reducible refine Kd.C_drew ?_))); (case side2 => exact (Kd.R_reads' HO242.out).2.1); rintro e w33 ⟨rfl, hb⟩; refine ⟨_, rfl, ?_⟩; have n0_ := Aside0.mk (Kd.R_below (by (with_reducible repeat (first | apply Kd.R_alloc | apply Kd.R_drewN | apply Kd.R_drew)); exact HO231.out) hb); have n1_ := Aside0.mk (Kd.R_below (by (with_reducible repeat (first | apply Kd.R_alloc | apply Kd.R_drewN | apply Kd.R_drew)); exact HO242.out) hb); have n2_ := Aside0.mk (blk_below (g := gb233) (o := .cells #[.int .i64 ((rd_T34 t229 0).f0), .int .i64 ((rd_T34 t229 0).f1)] 34 (0, 0)) (by (with_reducible repeat (first | refine blk_drewN ?_ _ | refine blk_drew ?_ | refine blk_alloc ?_ _)); exact BK233.out) hb); have n3_ := Aside0.mk (blk_below (g := gb235) (o := .cells #[.int .i64 ((rd_T34 t229 1).f0), .int .i64 ((rd_T34 t229 1).f1)] 34 (0, 0)) (by (with_reducible repeat (first | refine blk_drewN ?_ _ | refine blk_drew ?_ | refine blk_alloc ?_ _)); exact BK235.out) hb); have n4_ := Aside0.mk (blk_below (g := gb237) (o := .cells #[.int .i64 ((rd_T34 t229 2).f0), .int .i64 ((rd_T34 t229 2).f1)] 34 (0, 0)) (by (with_reducible repeat (first | refine blk_drewN ?_ _ | refine blk_drew ?_ | refine blk_alloc ?_ _)); exact BK237.out) hb); have n5_ := Aside0.mk (blk_below (g := gb239) (o := .cells #[.int .i64 ((rd_T34 t229 3).f0), .int .i64 ((rd_T34 t229 3).f1)] 34 (0, 0)) (by (with_reducible repeat (first | refine blk_drewN ?_ _ | refine blk_drew ?_ | refine blk_alloc ?_ _)); exact BK239.out) hb); have n6_ := Aside0.mk (below_step (by repeat (first | (with_reducible first | exact HB.out | apply below_alloc | apply pw_below_drewN | apply below_drew1 | refine below_set ?_ GE233.out | refine below_set ?_ GE235.out | refine below_set ?_ GE237.out | refine below_set ?_ GE239.out) | exact HB.out)) hb); clear HO231; clear HO242; clear BK233; clear BK235; clear BK237; clear BK239; clear HB; have HO231 := n0_; have HO242 := n1_; have BK233 := n2_; have BK235 := n3_; have BK237 := n4_; have BK239 := n5_; have HB := n6_; clear n0_ n1_ n2_ n3_ n4_ n5_ n6_; (try clear hb); (try clear hb2); (try clear hk); (try clear hi)) | ((with_reducible refine gate_dst (N := 8) rfl ?_); refine box_event ?hg (N := 8) ?hd (cs := #[.int .i64 0, .int .i64 0, .int .i64 0, .int .i64 0]) (t := 26) ?hr ?_; (case hd => rfl); (case hg => rfl); (case hr => first | (go_simp; done) | (go_simp; rfl)); intro gb247 hg w34 hbox hb; have n0_ := Aside0.mk (Kd.R_below (by (with_reducible repeat (first | apply Kd.R_alloc | apply Kd.R_drewN | apply Kd.R_drew)); exact HO231.out) hb); have n1_ := Aside0.mk (Kd.R_below (by (with_reducible repeat (first | apply Kd.R_alloc | apply Kd.R_drewN | apply Kd.R_drew)); exact HO242.out) hb); have n2_ := Aside0.mk (blk_below (g := gb233) (o := .cells #[.int .i64 ((rd_T34 t229 0).f0), .int .i64 ((rd_T34 t229 0).f1)] 34 (0, 0)) (by (with_reducible repeat (first | refine blk_drewN ?_ _ | refine blk_drew ?_ | refine blk_alloc ?_ _)); exact BK233.out) hb); have n3_ := Aside0.mk (blk_below (g := gb235) (o := .cells #[.int .i64 ((rd_T34 t229 1).f0), .int .i64 ((rd_T34 t229 1).f1)] 34 (0, 0)) (by (with_reducible repeat (first | refine blk_drewN ?_ _ | refine blk_drew ?_ | refine blk_alloc ?_ _)); exact BK235.out) hb); have n4_ := Aside0.mk (blk_below (g := gb237) (o := .cells #[.int .i64 ((rd_T34 t229 2).f0), .int .i64 ((rd_T34 t229 2).f1)] 34 (0, 0)) (by (with_reducible repeat (first | refine blk_drewN ?_ _ | refine blk_drew ?_ | refine blk_alloc ?_ _)); exact BK237.out) hb); have n5_ := Aside0.mk (blk_below (g := gb239) (o := .cells #[.int .i64 ((rd_T34 t229 3).f0), .int .i64 ((rd_T34 t229 3).f1)] 34 (0, 0)) (by (with_reducible repeat (first | refine blk_drewN ?_ _ | refine blk_drew ?_ | refine blk_alloc ?_ _)); exact BK239.out) hb); have n6_ := Aside0.mk (below_step (by repeat (first | (with_reducible first | exact HB.out | apply below_alloc | apply pw_below_drewN | apply below_drew1 | refine below_set ?_ GE233.out | refine below_set ?_ GE235.out | refine below_set ?_ GE237.out | refine below_set ?_ GE239.out) | exact HB.out)) hb); have n7_ := Aside0.mk (hbox); have n8_ := Aside0.mk ((by rw [hg]; exact (below_size (by repeat (first | (with_reducible first | exact HB.out | apply below_alloc | apply pw_below_drewN | apply below_drew1 | refine below_set ?_ GE233.out | refine below_set ?_ GE235.out | refine below_set ?_ GE237.out | refine below_set ?_ GE239.out) | exact HB.out))) : w.heap.size ≤ gb247)); have n9_ := Aside0.mk ((by rw [hg]; exact (below_size (by repeat (first | (with_reducible first | exact HB.out | apply below_alloc | apply pw_below_drewN | apply below_drew1 | refine below_set ?_ GE233.out | refine below_set ?_ GE235.out | refine below_set ?_ GE237.out | refine below_set ?_ GE239.out) | exact HB.out))) : w.heap.size ≤ gb247)); have n10_ := Aside0.mk ((by rw [hg]; exact Nat.ne_of_lt (blk_lt (g := gb233) (o := .cells #[.int .i64 ((rd_T34 t229 0).f0), .int .i64 ((rd_T34 t229 0).f1)] 34 (0, 0)) (by (with_reducible repeat (first | refine blk_drewN ?_ _ | refine blk_drew ?_ | refine blk_alloc ?_ _)); exact BK233.out)) : gb233 ≠ gb247)); have n11_ := Aside0.mk ((by rw [hg]; exact Nat.ne_of_gt (blk_lt (g := gb233) (o := .cells #[.int .i64 ((rd_T34 t229 0).f0), .int .i64 ((rd_T34 t229 0).f1)] 34 (0, 0)) (by (with_reducible repeat (first | refine blk_drewN ?_ _ | refine blk_drew ?_ | refine blk_alloc ?_ _)); exact BK233.out)) : gb247 ≠ gb233)); have n12_ := Aside0.mk ((by rw [hg]; exact Nat.ne_of_lt (blk_lt (g := gb235) (o := .cells #[.int .i64 ((rd_T34 t229 1).f0), .int .i64 ((rd_T34 t229 1).f1)] 34 (0, 0)) (by (with_reducible repeat (first | refine blk_drewN ?_ _ | refine blk_drew ?_ | refine blk_alloc ?_ _)); exact BK235.out)) : gb235 ≠ gb247)); have n13_ := Aside0.mk ((by rw [hg]; exact Nat.ne_of_gt (blk_lt (g := gb235) (o := .cells #[.int .i64 ((rd_T34 t229 1).f0), .int .i64 ((rd_T34 t229 1).f1)] 34 (0, 0)) (by (with_reducible repeat (first | refine blk_drewN ?_ _ | refine blk_drew ?_ | refine blk_alloc ?_ _)); exact BK235.out)) : gb247 ≠ gb235)); have n14_ := Aside0.mk ((by rw [hg]; exact Nat.ne_of_lt (blk_lt (g := gb237) (o := .cells #[.int .i64 ((rd_T34 t229 2).f0), .int .i64 ((rd_T34 t229 2).f1)] 34 (0, 0)) (by (with_reducible repeat (first | refine blk_drewN ?_ _ | refine blk_drew ?_ | refine blk_alloc ?_ _)); exact BK237.out)) : gb237 ≠ gb247)); have n15_ := Aside0.mk ((by rw [hg]; exact Nat.ne_of_gt (blk_lt (g := gb237) (o := .cells #[.int .i64 ((rd_T34 t229 2).f0), .int .i64 ((rd_T34 t229 2).f1)] 34 (0, 0)) (by (with_reducible repeat (first | refine blk_drewN ?_ _ | refine blk_drew ?_ | refine blk_alloc ?_ _)); exact BK237.out)) : gb247 ≠ gb237)); have n16_ := Aside0.mk ((by rw [hg]; exact Nat.ne_of_lt (blk_lt (g := gb239) (o := .cells #[.int .i64 ((rd_T34 t229 3).f0), .int .i64 ((rd_T34 t229 3).f1)] 34 (0, 0)) (by (with_reducible repeat (first | refine blk_drewN ?_ _ | refine blk_drew ?_ | refine blk_alloc ?_ _)); exact BK239.out)) : gb239 ≠ gb247)); have n17_ := Aside0.mk ((by rw [hg]; exact Nat.ne_of_gt (blk_lt (g := gb239) (o := .cells #[.int .i64 ((rd_T34 t229 3).f0), .int .i64 ((rd_T34 t229 3).f1)] 34 (0, 0)) (by (with_reducible repeat (first | refine blk_drewN ?_ _ | refine blk_drew ?_ | refine blk_alloc ?_ _)); exact BK239.out)) : gb247 ≠ gb239)); clear HO231; clear HO242; clear BK233; clear BK235; clear BK237; clear BK239; clear HB; have HO231 := n0_; have HO242 := n1_; have BK233 := n2_; have BK235 := n3_; have BK237 := n4_; have BK239 := n5_; have HB := n6_; have BK247 := n7_; have GW247 := n8_; have GE247 := n9_; have NB233_247 := n10_; have NB247_233 := n11_; have NB235_247 := n12_; have NB247_235 := n13_; have NB237_247 := n14_; have NB247_237 := n15_; have NB239_247 := n16_; have NB247_239 := n17_; clear n0_ n1_ n2_ n3_ n4_ n5_ n6_ n7_ n8_ n9_ n10_ n11_ n12_ n13_ n14_ n15_ n16_ n17_; clear hb hbox hg; have hnb35 := NB247_233.out; have hnc35 := NB233_247.out; have hnb36 := NB247_235.out; have hnc36 := NB235_247.out; have hnb37 := NB247_237.out; have hnc37 := NB237_247.out; have hnb38 := NB247_239.out; have hnc38 := NB239_247.out; have hcz39_0 : w34.cell? ⟨gb247, 0, none⟩ = some (.int .i64 0) := (blk_cell BK247.out 0).trans rfl; have hcz39_1 : w34.cell? ⟨gb247, 1, none⟩ = some (.int .i64 0) := (blk_cell BK247.out 1).trans rfl; have hcz39_2 : w34.cell? ⟨gb247, 2, none⟩ = some (.int .i64 0) := (blk_cell BK247.out 2).trans rfl; have hcz39_3 : w34.cell? ⟨gb247, 3, none⟩ = some (.int .i64 0) := (blk_cell BK247.out 3).trans rfl; have hfz39_0 := blk_frozen BK247.out 0; have hfz39_1 := blk_frozen BK247.out 1; have hfz39_2 := blk_frozen BK247.out 2; have hfz39_3 := blk_frozen BK247.out 3; have hcz40_0 : w34.cell? ⟨gb233, 0, none⟩ = some (.int .i64 ((rd_T34 t229 0).f0)) := (blk_cell BK233.out 0).trans rfl; have hcz40_1 : w34.cell? ⟨gb233, 1, none⟩ = some (.int .i64 ((rd_T34 t229 0).f1)) := (blk_cell BK233.out 1).trans rfl; have hfz40_0 := blk_frozen BK233.out 0; have hfz40_1 := blk_frozen BK233.out 1; have hcz41_0 : w34.cell? ⟨gb235, 0, none⟩ = some (.int .i64 ((rd_T34 t229 1).f0)) := (blk_cell BK235.out 0).trans rfl; have hcz41_1 : w34.cell? ⟨gb235, 1, none⟩ = some (.int .i64 ((rd_T34 t229 1).f1)) := (blk_cell BK235.out 1).trans rfl; have hfz41_0 := blk_frozen BK235.out 0; have hfz41_1 := blk_frozen BK235.out 1; have hcz42_0 : w34.cell? ⟨gb237, 0, none⟩ = some (.int .i64 ((rd_T34 t229 2).f0)) := (blk_cell BK237.out 0).trans rfl; have hcz42_1 : w34.cell? ⟨gb237, 1, none⟩ = some (.int .i64 ((rd_T34 t229 2).f1)) := (blk_cell BK237.out 1).trans rfl; have hfz42_0 := blk_frozen BK237.out 0; have hfz42_1 := blk_frozen BK237.out 1; have hcz43_0 : w34.cell? ⟨gb239, 0, none⟩ = some (.int .i64 ((rd_T34 t229 3).f0)) := (blk_cell BK239.out 0).trans rfl; have hcz43_1 : w34.cell? ⟨gb239, 1, none⟩ = some (.int .i64 ((rd_T34 t229 3).f1)) := (blk_cell BK239.out 1).trans rfl; have hfz43_0 := blk_frozen BK239.out 0; have hfz43_1 := blk_frozen BK239.out 1) | ((with_reducible refine gate_dst (N := 36) rfl ?_); refine Kd.R_lit k34 _ 34 ?hg (N := 36) ?hd (xs := ([(⟨(rd_T34 t229 0).f0, (rd_T34 t229 0).f1⟩ : S34), (⟨(rd_T34 t229 1).f0, (rd_T34 t229 1).f1⟩ : S34), (⟨(rd_T34 t229 2).f0, (rd_T34 t229 2).f1⟩ : S34), (⟨(rd_T34 t229 3).f0, (rd_T34 t229 3).f1⟩ : S34)] : List (S34))) (inner := [.int .i64 ((rd_T34 t229 0).f0), .int .i64 ((rd_T34 t229 0).f1), .int .i64 ((rd_T34 t229 1).f0), .int .i64 ((rd_T34 t229 1).f1), .int .i64 ((rd_T34 t229 2).f0), .int .i64 ((rd_T34 t229 2).f1), .int .i64 ((rd_T34 t229 3).f0), .int .i64 ((rd_T34 t229 3).f1)]) (ok := fun _ => True) (okp := fun _ => True) ?hr ?hp (fun _ hk => hk) trivial (Below.refl _ _) (Nat.le_refl _) (by simp) ?_; (case hd => rfl); (case hg => rfl); (case hr => first | (go_simp; done) | (go_simp; rfl)); (case hp => exact (Reps.c2 (show Kd.M k34 _ _ _ (⟨(rd_T34 t229 0).f0, (rd_T34 t229 0).f1⟩ : S34) [.int .i64 ((rd_T34 t229 0).f0), .int .i64 ((rd_T34 t229 0).f1)] from (k34_mkM _ _ _ (⟨(rd_T34 t229 0).f0, (rd_T34 t229 0).f1⟩ : S34) )) (Reps.c2 (show Kd.M k34 _ _ _ (⟨(rd_T34 t229 1).f0, (rd_T34 t229 1).f1⟩ : S34) [.int .i64 ((rd_T34 t229 1).f0), .int .i64 ((rd_T34 t229 1).f1)] from (k34_mkM _ _ _ (⟨(rd_T34 t229 1).f0, (rd_T34 t229 1).f1⟩ : S34) )) (Reps.c2 (show Kd.M k34 _ _ _ (⟨(rd_T34 t229 2).f0, (rd_T34 t229 2).f1⟩ : S34) [.int .i64 ((rd_T34 t229 2).f0), .int .i64 ((rd_T34 t229 2).f1)] from (k34_mkM _ _ _ (⟨(rd_T34 t229 2).f0, (rd_T34 t229 2).f1⟩ : S34) )) (Reps.c2 (show Kd.M k34 _ _ _ (⟨(rd_T34 t229 3).f0, (rd_T34 t229 3).f1⟩ : S34) [.int .i64 ((rd_T34 t229 3).f0), .int .i64 ((rd_T34 t229 3).f1)] from (k34_mkM _ _ _ (⟨(rd_T34 t229 3).f0, (rd_T34 t229 3).f1⟩ : S34) )) (Reps.none _ _)))))); intro v249 w44 ho45 hb hg_ hnew_; clear hg_ hnew_; (first | rw [← Ny248.out] at ho45 | (simp only [Int.reduceToNat] at ho45; rw [← Ny248.out] at ho45)); have n0_ := Aside0.mk (Kd.R_elder' (by (with_reducible repeat (first | apply Kd.R_alloc | apply Kd.R_drewN | apply Kd.R_drew)); exact (Kd.R_mono (Kd.R_far (p := ⟨gb247, 3, none⟩) (Kd.R_far (p := ⟨gb247, 2, none⟩) (Kd.R_far (p := ⟨gb247, 1, none⟩) (Kd.R_far (p := ⟨gb247, 0, none⟩) (Kd.R_types HO231.out BK247.out (by decide)) (fun _ hk => hk.2) (.int .i64 t243)) (fun _ hk => hk.2) (.int .i64 t244)) (fun _ hk => hk.2) (.int .i64 t245)) (fun _ hk => hk.2) (.int .i64 t246)) (fun _ h_ => h_.1))) (Kd.R_base ho45) hb); have n1_ := Aside0.mk (Kd.R_elder' (by (with_reducible repeat (first | apply Kd.R_alloc | apply Kd.R_drewN | apply Kd.R_drew)); exact (Kd.R_mono (Kd.R_far (p := ⟨gb247, 3, none⟩) (Kd.R_far (p := ⟨gb247, 2, none⟩) (Kd.R_far (p := ⟨gb247, 1, none⟩) (Kd.R_far (p := ⟨gb247, 0, none⟩) (Kd.R_types HO242.out BK247.out (by decide)) (fun _ hk => hk.2) (.int .i64 t243)) (fun _ hk => hk.2) (.int .i64 t244)) (fun _ hk => hk.2) (.int .i64 t245)) (fun _ hk => hk.2) (.int .i64 t246)) (fun _ h_ => h_.1))) (Kd.R_base ho45) hb); have n2_ := Aside0.mk (Kd.R_lower (Kd.R_newB (Kd.R_newB (Kd.R_newB (Kd.R_newB (Kd.R_new' (Kd.R_new' ho45 (Kd.R_lt (by (with_reducible repeat (first | apply Kd.R_alloc | apply Kd.R_drewN | apply Kd.R_drew)); exact (Kd.R_mono (Kd.R_far (p := ⟨gb247, 3, none⟩) (Kd.R_far (p := ⟨gb247, 2, none⟩) (Kd.R_far (p := ⟨gb247, 1, none⟩) (Kd.R_far (p := ⟨gb247, 0, none⟩) (Kd.R_types HO231.out BK247.out (by decide)) (fun _ hk => hk.2) (.int .i64 t243)) (fun _ hk => hk.2) (.int .i64 t244)) (fun _ hk => hk.2) (.int .i64 t245)) (fun _ hk => hk.2) (.int .i64 t246)) (fun _ h_ => h_.1))))) (Kd.R_lt (by (with_reducible repeat (first | apply Kd.R_alloc | apply Kd.R_drewN | apply Kd.R_drew)); exact (Kd.R_mono (Kd.R_far (p := ⟨gb247, 3, none⟩) (Kd.R_far (p := ⟨gb247, 2, none⟩) (Kd.R_far (p := ⟨gb247, 1, none⟩) (Kd.R_far (p := ⟨gb247, 0, none⟩) (Kd.R_types HO242.out BK247.out (by decide)) (fun _ hk => hk.2) (.int .i64 t243)) (fun _ hk => hk.2) (.int .i64 t244)) (fun _ hk => hk.2) (.int .i64 t245)) (fun _ hk => hk.2) (.int .i64 t246)) (fun _ h_ => h_.1))))) (g := gb233) (o := .cells #[.int .i64 ((rd_T34 t229 0).f0), .int .i64 ((rd_T34 t229 0).f1)] 34 (0, 0)) (by (with_reducible repeat (first | refine blk_drewN ?_ _ | refine blk_drew ?_ | refine blk_alloc ?_ _)); refine blk_far ?_ NB233_247.out _; (with_reducible repeat (first | refine blk_drewN ?_ _ | refine blk_drew ?_ | refine blk_alloc ?_ _)); refine blk_far ?_ NB233_247.out _; (with_reducible repeat (first | refine blk_drewN ?_ _ | refine blk_drew ?_ | refine blk_alloc ?_ _)); refine blk_far ?_ NB233_247.out _; (with_reducible repeat (first | refine blk_drewN ?_ _ | refine blk_drew ?_ | refine blk_alloc ?_ _)); refine blk_far ?_ NB233_247.out _; (with_reducible repeat (first | refine blk_drewN ?_ _ | refine blk_drew ?_ | refine blk_alloc ?_ _)); exact BK233.out)) (g := gb235) (o := .cells #[.int .i64 ((rd_T34 t229 1).f0), .int .i64 ((rd_T34 t229 1).f1)] 34 (0, 0)) (by (with_reducible repeat (first | refine blk_drewN ?_ _ | refine blk_drew ?_ | refine blk_alloc ?_ _)); refine blk_far ?_ NB235_247.out _; (with_reducible repeat (first | refine blk_drewN ?_ _ | refine blk_drew ?_ | refine blk_alloc ?_ _)); refine blk_far ?_ NB235_247.out _; (with_reducible repeat (first | refine blk_drewN ?_ _ | refine blk_drew ?_ | refine blk_alloc ?_ _)); refine blk_far ?_ NB235_247.out _; (with_reducible repeat (first | refine blk_drewN ?_ _ | refine blk_drew ?_ | refine blk_alloc ?_ _)); refine blk_far ?_ NB235_247.out _; (with_reducible repeat (first | refine blk_drewN ?_ _ | refine blk_drew ?_ | refine blk_alloc ?_ _)); exact BK235.out)) (g := gb237) (o := .cells #[.int .i64 ((rd_T34 t229 2).f0), .int .i64 ((rd_T34 t229 2).f1)] 34 (0, 0)) (by (with_reducible repeat (first | refine blk_drewN ?_ _ | refine blk_drew ?_ | refine blk_alloc ?_ _)); refine blk_far ?_ NB237_247.out _; (with_reducible repeat (first | refine blk_drewN ?_ _ | refine blk_drew ?_ | refine blk_alloc ?_ _)); refine blk_far ?_ NB237_247.out _; (with_reducible repeat (first | refine blk_drewN ?_ _ | refine blk_drew ?_ | refine blk_alloc ?_ _)); refine blk_far ?_ NB237_247.out _; (with_reducible repeat (first | refine blk_drewN ?_ _ | refine blk_drew ?_ | refine blk_alloc ?_ _)); refine blk_far ?_ NB237_247.out _; (with_reducible repeat (first | refine blk_drewN ?_ _ | refine blk_drew ?_ | refine blk_alloc ?_ _)); exact BK237.out)) (g := gb239) (o := .cells #[.int .i64 ((rd_T34 t229 3).f0), .int .i64 ((rd_T34 t229 3).f1)] 34 (0, 0)) (by (with_reducible repeat (first | refine blk_drewN ?_ _ | refine blk_drew ?_ | refine blk_alloc ?_ _)); refine blk_far ?_ NB239_247.out _; (with_reducible repeat (first | refine blk_drewN ?_ _ | refine blk_drew ?_ | refine blk_alloc ?_ _)); refine blk_far ?_ NB239_247.out _; (with_reducible repeat (first | refine blk_drewN ?_ _ | refine blk_drew ?_ | refine blk_alloc ?_ _)); refine blk_far ?_ NB239_247.out _; (with_reducible repeat (first | refine blk_drewN ?_ _ | refine blk_drew ?_ | refine blk_alloc ?_ _)); refine blk_far ?_ NB239_247.out _; (with_reducible repeat (first | refine blk_drewN ?_ _ | refine blk_drew ?_ | refine blk_alloc ?_ _)); exact BK239.out)) (below_size (by repeat (first | (with_reducible first | exact HB.out | apply below_alloc | apply pw_below_drewN | apply below_drew1 | refine below_set ?_ GE233.out | refine below_set ?_ GE235.out | refine below_set ?_ GE237.out | refine below_set ?_ GE239.out | refine below_set ?_ GE247.out) | exact HB.out)))); have n3_ := Aside0.mk (blk_below (g := gb233) (o := .cells #[.int .i64 ((rd_T34 t229 0).f0), .int .i64 ((rd_T34 t229 0).f1)] 34 (0, 0)) (by (with_reducible repeat (first | refine blk_drewN ?_ _ | refine blk_drew ?_ | refine blk_alloc ?_ _)); refine blk_far ?_ NB233_247.out _; (with_reducible repeat (first | refine blk_drewN ?_ _ | refine blk_drew ?_ | refine blk_alloc ?_ _)); refine blk_far ?_ NB233_247.out _; (with_reducible repeat (first | refine blk_drewN ?_ _ | refine blk_drew ?_ | refine blk_alloc ?_ _)); refine blk_far ?_ NB233_247.out _; (with_reducible repeat (first | refine blk_drewN ?_ _ | refine blk_drew ?_ | refine blk_alloc ?_ _)); refine blk_far ?_ NB233_247.out _; (with_reducible repeat (first | refine blk_drewN ?_ _ | refine blk_drew ?_ | refine blk_alloc ?_ _)); exact BK233.out) hb); have n4_ := Aside0.mk (blk_below (g := gb235) (o := .cells #[.int .i64 ((rd_T34 t229 1).f0), .int .i64 ((rd_T34 t229 1).f1)] 34 (0, 0)) (by (with_reducible repeat (first | refine blk_drewN ?_ _ | refine blk_drew ?_ | refine blk_alloc ?_ _)); refine blk_far ?_ NB235_247.out _; (with_reducible repeat (first | refine blk_drewN ?_ _ | refine blk_drew ?_ | refine blk_alloc ?_ _)); refine blk_far ?_ NB235_247.out _; (with_reducible repeat (first | refine blk_drewN ?_ _ | refine blk_drew ?_ | refine blk_alloc ?_ _)); refine blk_far ?_ NB235_247.out _; (with_reducible repeat (first | refine blk_drewN ?_ _ | refine blk_drew ?_ | refine blk_alloc ?_ _)); refine blk_far ?_ NB235_247.out _; (with_reducible repeat (first | refine blk_drewN ?_ _ | refine blk_drew ?_ | refine blk_alloc ?_ _)); exact BK235.out) hb); have n5_ := Aside0.mk (blk_below (g := gb237) (o := .cells #[.int .i64 ((rd_T34 t229 2).f0), .int .i64 ((rd_T34 t229 2).f1)] 34 (0, 0)) (by (with_reducible repeat (first | refine blk_drewN ?_ _ | refine blk_drew ?_ | refine blk_alloc ?_ _)); refine blk_far ?_ NB237_247.out _; (with_reducible repeat (first | refine blk_drewN ?_ _ | refine blk_drew ?_ | refine blk_alloc ?_ _)); refine blk_far ?_ NB237_247.out _; (with_reducible repeat (first | refine blk_drewN ?_ _ | refine blk_drew ?_ | refine blk_alloc ?_ _)); refine blk_far ?_ NB237_247.out _; (with_reducible repeat (first | refine blk_drewN ?_ _ | refine blk_drew ?_ | refine blk_alloc ?_ _)); refine blk_far ?_ NB237_247.out _; (with_reducible repeat (first | refine blk_drewN ?_ _ | refine blk_drew ?_ | refine blk_alloc ?_ _)); exact BK237.out) hb); have n6_ := Aside0.mk (blk_below (g := gb239) (o := .cells #[.int .i64 ((rd_T34 t229 3).f0), .int .i64 ((rd_T34 t229 3).f1)] 34 (0, 0)) (by (with_reducible repeat (first | refine blk_drewN ?_ _ | refine blk_drew ?_ | refine blk_alloc ?_ _)); refine blk_far ?_ NB239_247.out _; (with_reducible repeat (first | refine blk_drewN ?_ _ | refine blk_drew ?_ | refine blk_alloc ?_ _)); refine blk_far ?_ NB239_247.out _; (with_reducible repeat (first | refine blk_drewN ?_ _ | refine blk_drew ?_ | refine blk_alloc ?_ _)); refine blk_far ?_ NB239_247.out _; (with_reducible repeat (first | refine blk_drewN ?_ _ | refine blk_drew ?_ | refine blk_alloc ?_ _)); refine blk_far ?_ NB239_247.out _; (with_reducible repeat (first | refine blk_drewN ?_ _ | refine blk_drew ?_ | refine blk_alloc ?_ _)); exact BK239.out) hb); have n7_ := Aside0.mk (blk_below (g := gb247) (o := .cells #[.int .i64 t243, .int .i64 t244, .int .i64 t245, .int .i64 t246] 26 (0, 0)) (by (with_reducible repeat (first | refine blk_drewN ?_ _ | refine blk_drew ?_ | refine blk_alloc ?_ _)); refine blk_put (cs := #[.int .i64 t243, .int .i64 t244, .int .i64 t245, .int .i64 0]) ?_ 3 _ rfl; (with_reducible repeat (first | refine blk_drewN ?_ _ | refine blk_drew ?_ | refine blk_alloc ?_ _)); refine blk_put (cs := #[.int .i64 t243, .int .i64 t244, .int .i64 0, .int .i64 0]) ?_ 2 _ rfl; (with_reducible repeat (first | refine blk_drewN ?_ _ | refine blk_drew ?_ | refine blk_alloc ?_ _)); refine blk_put (cs := #[.int .i64 t243, .int .i64 0, .int .i64 0, .int .i64 0]) ?_ 1 _ rfl; (with_reducible repeat (first | refine blk_drewN ?_ _ | refine blk_drew ?_ | refine blk_alloc ?_ _)); refine blk_put (cs := #[.int .i64 0, .int .i64 0, .int .i64 0, .int .i64 0]) ?_ 0 _ rfl; (with_reducible repeat (first | refine blk_drewN ?_ _ | refine blk_drew ?_ | refine blk_alloc ?_ _)); exact BK247.out) hb); have n8_ := Aside0.mk (below_step (by repeat (first | (with_reducible first | exact HB.out | apply below_alloc | apply pw_below_drewN | apply below_drew1 | refine below_set ?_ GE233.out | refine below_set ?_ GE235.out | refine below_set ?_ GE237.out | refine below_set ?_ GE239.out | refine below_set ?_ GE247.out) | exact HB.out)) hb); clear HO231; clear HO242; clear BK233; clear BK235; clear BK237; clear BK239; clear BK247; clear HB; have HO231 := n0_; have HO242 := n1_; have HO250 := n2_; have BK233 := n3_; have BK235 := n4_; have BK237 := n5_; have BK239 := n6_; have BK247 := n7_; have HB := n8_; clear n0_ n1_ n2_ n3_ n4_ n5_ n6_ n7_ n8_; clear hb ho45; obtain ⟨Ao46, co46, eo46⟩ := Kd.R_slice HO250.out; subst eo46) | ((with_reducible refine gate_callee (f := 29) rfl ?_); refine goesL_ (some 37) rfl rfl Try.func29 (by kernel_rfl) rfl #[.slice Ao46 y248.length co46] rfl (by (try simp only [List.map_toArray, List.map_cons, List.map_nil]); first | done | rfl | (simp only [List.length_drop, List.length_take]; rfl)) ?_; (with_reducible refine (spec_BoxOf.calls k _ _ y248 t251 t252 t253 t254 _ ?side1 ?side2 A10.out).mono ?_); (case side1 => repeat (first | exact (Kd.R_reads' HO250.out).2.2 | (with_reducible refine Kd.C_alloc ?_ _) | (with_reducible refine Kd.C_drewN ?_ _) | (with_reducible refine Kd.C_drew ?_))); (case side2 => exact (Kd.R_reads' HO250.out).2.1); rintro e w47 ⟨rfl, hb⟩; refine ⟨_, rfl, ?_⟩; have n0_ := Aside0.mk (Kd.R_below (by (with_reducible repeat (first | apply Kd.R_alloc | apply Kd.R_drewN | apply Kd.R_drew)); exact HO231.out) hb); have n1_ := Aside0.mk (Kd.R_below (by (with_reducible repeat (first | apply Kd.R_alloc | apply Kd.R_drewN | apply Kd.R_drew)); exact HO242.out) hb); have n2_ := Aside0.mk (Kd.R_below (by (with_reducible repeat (first | apply Kd.R_alloc | apply Kd.R_drewN | apply Kd.R_drew)); exact HO250.out) hb); have n3_ := Aside0.mk (blk_below (g := gb233) (o := .cells #[.int .i64 ((rd_T34 t229 0).f0), .int .i64 ((rd_T34 t229 0).f1)] 34 (0, 0)) (by (with_reducible repeat (first | refine blk_drewN ?_ _ | refine blk_drew ?_ | refine blk_alloc ?_ _)); exact BK233.out) hb); have n4_ := Aside0.mk (blk_below (g := gb235) (o := .cells #[.int .i64 ((rd_T34 t229 1).f0), .int .i64 ((rd_T34 t229 1).f1)] 34 (0, 0)) (by (with_reducible repeat (first | refine blk_drewN ?_ _ | refine blk_drew ?_ | refine blk_alloc ?_ _)); exact BK235.out) hb); have n5_ := Aside0.mk (blk_below (g := gb237) (o := .cells #[.int .i64 ((rd_T34 t229 2).f0), .int .i64 ((rd_T34 t229 2).f1)] 34 (0, 0)) (by (with_reducible repeat (first | refine blk_drewN ?_ _ | refine blk_drew ?_ | refine blk_alloc ?_ _)); exact BK237.out) hb); have n6_ := Aside0.mk (blk_below (g := gb239) (o := .cells #[.int .i64 ((rd_T34 t229 3).f0), .int .i64 ((rd_T34 t229 3).f1)] 34 (0, 0)) (by (with_reducible repeat (first | refine blk_drewN ?_ _ | refine blk_drew ?_ | refine blk_alloc ?_ _)); exact BK239.out) hb); have n7_ := Aside0.mk (blk_below (g := gb247) (o := .cells #[.int .i64 t243, .int .i64 t244, .int .i64 t245, .int .i64 t246] 26 (0, 0)) (by (with_reducible repeat (first | refine blk_drewN ?_ _ | refine blk_drew ?_ | refine blk_alloc ?_ _)); exact BK247.out) hb); have n8_ := Aside0.mk (below_step (by repeat (first | (with_reducible first | exact HB.out | apply below_alloc | apply pw_below_drewN | apply below_drew1 | refine below_set ?_ GE233.out | refine below_set ?_ GE235.out | refine below_set ?_ GE237.out | refine below_set ?_ GE239.out | refine below_set ?_ GE247.out) | exact HB.out)) hb); clear HO231; clear HO242; clear HO250; clear BK233; clear BK235; clear BK237; clear BK239; clear BK247; clear HB; have HO231 := n0_; have HO242 := n1_; have HO250 := n2_; have BK233 := n3_; have BK235 := n4_; have BK237 := n5_; have BK239 := n6_; have BK247 := n7_; have HB := n8_; clear n0_ n1_ n2_ n3_ n4_ n5_ n6_ n7_ n8_; (try clear hb); (try clear hb2); (try clear hk); (try clear hi)) | ((with_reducible refine gate_dst (N := 9) rfl ?_); refine box_event ?hg (N := 9) ?hd (cs := #[.int .i64 0, .int .i64 0, .int .i64 0, .int .i64 0]) (t := 26) ?hr ?_; (case hd => rfl); (case hg => rfl); (case hr => first | (go_simp; done) | (go_simp; rfl)); intro gb255 hg w48 hbox hb; have n0_ := Aside0.mk (Kd.R_below (by (with_reducible repeat (first | apply Kd.R_alloc | apply Kd.R_drewN | apply Kd.R_drew)); exact HO231.out) hb); have n1_ := Aside0.mk (Kd.R_below (by (with_reducible repeat (first | apply Kd.R_alloc | apply Kd.R_drewN | apply Kd.R_drew)); exact HO242.out) hb); have n2_ := Aside0.mk (Kd.R_below (by (with_reducible repeat (first | apply Kd.R_alloc | apply Kd.R_drewN | apply Kd.R_drew)); exact HO250.out) hb); have n3_ := Aside0.mk (blk_below (g := gb233) (o := .cells #[.int .i64 ((rd_T34 t229 0).f0), .int .i64 ((rd_T34 t229 0).f1)] 34 (0, 0)) (by (with_reducible repeat (first | refine blk_drewN ?_ _ | refine blk_drew ?_ | refine blk_alloc ?_ _)); exact BK233.out) hb); have n4_ := Aside0.mk (blk_below (g := gb235) (o := .cells #[.int .i64 ((rd_T34 t229 1).f0), .int .i64 ((rd_T34 t229 1).f1)] 34 (0, 0)) (by (with_reducible repeat (first | refine blk_drewN ?_ _ | refine blk_drew ?_ | refine blk_alloc ?_ _)); exact BK235.out) hb); have n5_ := Aside0.mk (blk_below (g := gb237) (o := .cells #[.int .i64 ((rd_T34 t229 2).f0), .int .i64 ((rd_T34 t229 2).f1)] 34 (0, 0)) (by (with_reducible repeat (first | refine blk_drewN ?_ _ | refine blk_drew ?_ | refine blk_alloc ?_ _)); exact BK237.out) hb); have n6_ := Aside0.mk (blk_below (g := gb239) (o := .cells #[.int .i64 ((rd_T34 t229 3).f0), .int .i64 ((rd_T34 t229 3).f1)] 34 (0, 0)) (by (with_reducible repeat (first | refine blk_drewN ?_ _ | refine blk_drew ?_ | refine blk_alloc ?_ _)); exact BK239.out) hb); have n7_ := Aside0.mk (blk_below (g := gb247) (o := .cells #[.int .i64 t243, .int .i64 t244, .int .i64 t245, .int .i64 t246] 26 (0, 0)) (by (with_reducible repeat (first | refine blk_drewN ?_ _ | refine blk_drew ?_ | refine blk_alloc ?_ _)); exact BK247.out) hb); have n8_ := Aside0.mk (below_step (by repeat (first | (with_reducible first | exact HB.out | apply below_alloc | apply pw_below_drewN | apply below_drew1 | refine below_set ?_ GE233.out | refine below_set ?_ GE235.out | refine below_set ?_ GE237.out | refine below_set ?_ GE239.out | refine below_set ?_ GE247.out) | exact HB.out)) hb); have n9_ := Aside0.mk (hbox); have n10_ := Aside0.mk ((by rw [hg]; exact (below_size (by repeat (first | (with_reducible first | exact HB.out | apply below_alloc | apply pw_below_drewN | apply below_drew1 | refine below_set ?_ GE233.out | refine below_set ?_ GE235.out | refine below_set ?_ GE237.out | refine below_set ?_ GE239.out | refine below_set ?_ GE247.out) | exact HB.out))) : w.heap.size ≤ gb255)); have n11_ := Aside0.mk ((by rw [hg]; exact (below_size (by repeat (first | (with_reducible first | exact HB.out | apply below_alloc | apply pw_below_drewN | apply below_drew1 | refine below_set ?_ GE233.out | refine below_set ?_ GE235.out | refine below_set ?_ GE237.out | refine below_set ?_ GE239.out | refine below_set ?_ GE247.out) | exact HB.out))) : w.heap.size ≤ gb255)); have n12_ := Aside0.mk ((by rw [hg]; exact Nat.ne_of_lt (blk_lt (g := gb233) (o := .cells #[.int .i64 ((rd_T34 t229 0).f0), .int .i64 ((rd_T34 t229 0).f1)] 34 (0, 0)) (by (with_reducible repeat (first | refine blk_drewN ?_ _ | refine blk_drew ?_ | refine blk_alloc ?_ _)); exact BK233.out)) : gb233 ≠ gb255)); have n13_ := Aside0.mk ((by rw [hg]; exact Nat.ne_of_gt (blk_lt (g := gb233) (o := .cells #[.int .i64 ((rd_T34 t229 0).f0), .int .i64 ((rd_T34 t229 0).f1)] 34 (0, 0)) (by (with_reducible repeat (first | refine blk_drewN ?_ _ | refine blk_drew ?_ | refine blk_alloc ?_ _)); exact BK233.out)) : gb255 ≠ gb233)); have n14_ := Aside0.mk ((by rw [hg]; exact Nat.ne_of_lt (blk_lt (g := gb235) (o := .cells #[.int .i64 ((rd_T34 t229 1).f0), .int .i64 ((rd_T34 t229 1).f1)] 34 (0, 0)) (by (with_reducible repeat (first | refine blk_drewN ?_ _ | refine blk_drew ?_ | refine blk_alloc ?_ _)); exact BK235.out)) : gb235 ≠ gb255)); have n15_ := Aside0.mk ((by rw [hg]; exact Nat.ne_of_gt (blk_lt (g := gb235) (o := .cells #[.int .i64 ((rd_T34 t229 1).f0), .int .i64 ((rd_T34 t229 1).f1)] 34 (0, 0)) (by (with_reducible repeat (first | refine blk_drewN ?_ _ | refine blk_drew ?_ | refine blk_alloc ?_ _)); exact BK235.out)) : gb255 ≠ gb235)); have n16_ := Aside0.mk ((by rw [hg]; exact Nat.ne_of_lt (blk_lt (g := gb237) (o := .cells #[.int .i64 ((rd_T34 t229 2).f0), .int .i64 ((rd_T34 t229 2).f1)] 34 (0, 0)) (by (with_reducible repeat (first | refine blk_drewN ?_ _ | refine blk_drew ?_ | refine blk_alloc ?_ _)); exact BK237.out)) : gb237 ≠ gb255)); have n17_ := Aside0.mk ((by rw [hg]; exact Nat.ne_of_gt (blk_lt (g := gb237) (o := .cells #[.int .i64 ((rd_T34 t229 2).f0), .int .i64 ((rd_T34 t229 2).f1)] 34 (0, 0)) (by (with_reducible repeat (first | refine blk_drewN ?_ _ | refine blk_drew ?_ | refine blk_alloc ?_ _)); exact BK237.out)) : gb255 ≠ gb237)); have n18_ := Aside0.mk ((by rw [hg]; exact Nat.ne_of_lt (blk_lt (g := gb239) (o := .cells #[.int .i64 ((rd_T34 t229 3).f0), .int .i64 ((rd_T34 t229 3).f1)] 34 (0, 0)) (by (with_reducible repeat (first | refine blk_drewN ?_ _ | refine blk_drew ?_ | refine blk_alloc ?_ _)); exact BK239.out)) : gb239 ≠ gb255)); have n19_ := Aside0.mk ((by rw [hg]; exact Nat.ne_of_gt (blk_lt (g := gb239) (o := .cells #[.int .i64 ((rd_T34 t229 3).f0), .int .i64 ((rd_T34 t229 3).f1)] 34 (0, 0)) (by (with_reducible repeat (first | refine blk_drewN ?_ _ | refine blk_drew ?_ | refine blk_alloc ?_ _)); exact BK239.out)) : gb255 ≠ gb239)); have n20_ := Aside0.mk ((by rw [hg]; exact Nat.ne_of_lt (blk_lt (g := gb247) (o := .cells #[.int .i64 t243, .int .i64 t244, .int .i64 t245, .int .i64 t246] 26 (0, 0)) (by (with_reducible repeat (first | refine blk_drewN ?_ _ | refine blk_drew ?_ | refine blk_alloc ?_ _)); exact BK247.out)) : gb247 ≠ gb255)); have n21_ := Aside0.mk ((by rw [hg]; exact Nat.ne_of_gt (blk_lt (g := gb247) (o := .cells #[.int .i64 t243, .int .i64 t244, .int .i64 t245, .int .i64 t246] 26 (0, 0)) (by (with_reducible repeat (first | refine blk_drewN ?_ _ | refine blk_drew ?_ | refine blk_alloc ?_ _)); exact BK247.out)) : gb255 ≠ gb247)); clear HO231; clear HO242; clear HO250; clear BK233; clear BK235; clear BK237; clear BK239; clear BK247; clear HB; have HO231 := n0_; have HO242 := n1_; have HO250 := n2_; have BK233 := n3_; have BK235 := n4_; have BK237 := n5_; have BK239 := n6_; have BK247 := n7_; have HB := n8_; have BK255 := n9_; have GW255 := n10_; have GE255 := n11_; have NB233_255 := n12_; have NB255_233 := n13_; have NB235_255 := n14_; have NB255_235 := n15_; have NB237_255 := n16_; have NB255_237 := n17_; have NB239_255 := n18_; have NB255_239 := n19_; have NB247_255 := n20_; have NB255_247 := n21_; clear n0_ n1_ n2_ n3_ n4_ n5_ n6_ n7_ n8_ n9_ n10_ n11_ n12_ n13_ n14_ n15_ n16_ n17_ n18_ n19_ n20_ n21_; clear hb hbox hg; have hnb49 := NB255_233.out; have hnc49 := NB233_255.out; have hnb50 := NB255_235.out; have hnc50 := NB235_255.out; have hnb51 := NB255_237.out; have hnc51 := NB237_255.out; have hnb52 := NB255_239.out; have hnc52 := NB239_255.out; have hnb53 := NB255_247.out; have hnc53 := NB247_255.out; have hcz54_0 : w48.cell? ⟨gb255, 0, none⟩ = some (.int .i64 0) := (blk_cell BK255.out 0).trans rfl; have hcz54_1 : w48.cell? ⟨gb255, 1, none⟩ = some (.int .i64 0) := (blk_cell BK255.out 1).trans rfl; have hcz54_2 : w48.cell? ⟨gb255, 2, none⟩ = some (.int .i64 0) := (blk_cell BK255.out 2).trans rfl; have hcz54_3 : w48.cell? ⟨gb255, 3, none⟩ = some (.int .i64 0) := (blk_cell BK255.out 3).trans rfl; have hfz54_0 := blk_frozen BK255.out 0; have hfz54_1 := blk_frozen BK255.out 1; have hfz54_2 := blk_frozen BK255.out 2; have hfz54_3 := blk_frozen BK255.out 3))
      go_loopg [10] k (fun kq v10 w' => ∃ (x10_1 : Int), v10 = .int .i64 x10_1 ∧ Aside0 (laws_FnCurves.l0 kq x10_1 ((rd_T34 t229 0).f0) ((rd_T34 t229 0).f1) ((rd_T34 t229 1).f0) ((rd_T34 t229 1).f1) ((rd_T34 t229 2).f0) ((rd_T34 t229 2).f1) ((rd_T34 t229 3).f0) ((rd_T34 t229 3).f1) t243 t244 t245 t246 t251 t252 t253 t254 = some r) ∧ Aside0 (kq ≤ k) ∧ Aside0 (w'.heap[gb233]? = some (.cells #[.int .i64 ((rd_T34 t229 0).f0), .int .i64 ((rd_T34 t229 0).f1)] 34 (0, 0))) ∧ Aside0 (w'.heap[gb235]? = some (.cells #[.int .i64 ((rd_T34 t229 1).f0), .int .i64 ((rd_T34 t229 1).f1)] 34 (0, 0))) ∧ Aside0 (w'.heap[gb237]? = some (.cells #[.int .i64 ((rd_T34 t229 2).f0), .int .i64 ((rd_T34 t229 2).f1)] 34 (0, 0))) ∧ Aside0 (w'.heap[gb239]? = some (.cells #[.int .i64 ((rd_T34 t229 3).f0), .int .i64 ((rd_T34 t229 3).f1)] 34 (0, 0))) ∧ Aside0 (w'.heap[gb247]? = some (.cells #[.int .i64 t243, .int .i64 t244, .int .i64 t245, .int .i64 t246] 26 (0, 0))) ∧ Aside0 (w'.heap[gb255]? = some (.cells #[.int .i64 t251, .int .i64 t252, .int .i64 t253, .int .i64 t254] 26 (0, 0))) ∧ Aside0 (Below w.heap.size w w'))
      case atStart => exact ⟨(0), (by first | rfl | (simp; done) | (simp [*]; done)), H', ⟨Nat.le_refl _⟩, ⟨by (with_reducible repeat (first | refine blk_drewN ?_ _ | refine blk_drew ?_ | refine blk_alloc ?_ _)); refine blk_far ?_ NB233_255.out _; (with_reducible repeat (first | refine blk_drewN ?_ _ | refine blk_drew ?_ | refine blk_alloc ?_ _)); refine blk_far ?_ NB233_255.out _; (with_reducible repeat (first | refine blk_drewN ?_ _ | refine blk_drew ?_ | refine blk_alloc ?_ _)); refine blk_far ?_ NB233_255.out _; (with_reducible repeat (first | refine blk_drewN ?_ _ | refine blk_drew ?_ | refine blk_alloc ?_ _)); refine blk_far ?_ NB233_255.out _; (with_reducible repeat (first | refine blk_drewN ?_ _ | refine blk_drew ?_ | refine blk_alloc ?_ _)); exact BK233.out⟩, ⟨by (with_reducible repeat (first | refine blk_drewN ?_ _ | refine blk_drew ?_ | refine blk_alloc ?_ _)); refine blk_far ?_ NB235_255.out _; (with_reducible repeat (first | refine blk_drewN ?_ _ | refine blk_drew ?_ | refine blk_alloc ?_ _)); refine blk_far ?_ NB235_255.out _; (with_reducible repeat (first | refine blk_drewN ?_ _ | refine blk_drew ?_ | refine blk_alloc ?_ _)); refine blk_far ?_ NB235_255.out _; (with_reducible repeat (first | refine blk_drewN ?_ _ | refine blk_drew ?_ | refine blk_alloc ?_ _)); refine blk_far ?_ NB235_255.out _; (with_reducible repeat (first | refine blk_drewN ?_ _ | refine blk_drew ?_ | refine blk_alloc ?_ _)); exact BK235.out⟩, ⟨by (with_reducible repeat (first | refine blk_drewN ?_ _ | refine blk_drew ?_ | refine blk_alloc ?_ _)); refine blk_far ?_ NB237_255.out _; (with_reducible repeat (first | refine blk_drewN ?_ _ | refine blk_drew ?_ | refine blk_alloc ?_ _)); refine blk_far ?_ NB237_255.out _; (with_reducible repeat (first | refine blk_drewN ?_ _ | refine blk_drew ?_ | refine blk_alloc ?_ _)); refine blk_far ?_ NB237_255.out _; (with_reducible repeat (first | refine blk_drewN ?_ _ | refine blk_drew ?_ | refine blk_alloc ?_ _)); refine blk_far ?_ NB237_255.out _; (with_reducible repeat (first | refine blk_drewN ?_ _ | refine blk_drew ?_ | refine blk_alloc ?_ _)); exact BK237.out⟩, ⟨by (with_reducible repeat (first | refine blk_drewN ?_ _ | refine blk_drew ?_ | refine blk_alloc ?_ _)); refine blk_far ?_ NB239_255.out _; (with_reducible repeat (first | refine blk_drewN ?_ _ | refine blk_drew ?_ | refine blk_alloc ?_ _)); refine blk_far ?_ NB239_255.out _; (with_reducible repeat (first | refine blk_drewN ?_ _ | refine blk_drew ?_ | refine blk_alloc ?_ _)); refine blk_far ?_ NB239_255.out _; (with_reducible repeat (first | refine blk_drewN ?_ _ | refine blk_drew ?_ | refine blk_alloc ?_ _)); refine blk_far ?_ NB239_255.out _; (with_reducible repeat (first | refine blk_drewN ?_ _ | refine blk_drew ?_ | refine blk_alloc ?_ _)); exact BK239.out⟩, ⟨by (with_reducible repeat (first | refine blk_drewN ?_ _ | refine blk_drew ?_ | refine blk_alloc ?_ _)); refine blk_far ?_ NB247_255.out _; (with_reducible repeat (first | refine blk_drewN ?_ _ | refine blk_drew ?_ | refine blk_alloc ?_ _)); refine blk_far ?_ NB247_255.out _; (with_reducible repeat (first | refine blk_drewN ?_ _ | refine blk_drew ?_ | refine blk_alloc ?_ _)); refine blk_far ?_ NB247_255.out _; (with_reducible repeat (first | refine blk_drewN ?_ _ | refine blk_drew ?_ | refine blk_alloc ?_ _)); refine blk_far ?_ NB247_255.out _; (with_reducible repeat (first | refine blk_drewN ?_ _ | refine blk_drew ?_ | refine blk_alloc ?_ _)); exact BK247.out⟩, ⟨by (with_reducible repeat (first | refine blk_drewN ?_ _ | refine blk_drew ?_ | refine blk_alloc ?_ _)); refine blk_put (cs := #[.int .i64 t251, .int .i64 t252, .int .i64 t253, .int .i64 0]) ?_ 3 _ rfl; (with_reducible repeat (first | refine blk_drewN ?_ _ | refine blk_drew ?_ | refine blk_alloc ?_ _)); refine blk_put (cs := #[.int .i64 t251, .int .i64 t252, .int .i64 0, .int .i64 0]) ?_ 2 _ rfl; (with_reducible repeat (first | refine blk_drewN ?_ _ | refine blk_drew ?_ | refine blk_alloc ?_ _)); refine blk_put (cs := #[.int .i64 t251, .int .i64 0, .int .i64 0, .int .i64 0]) ?_ 1 _ rfl; (with_reducible repeat (first | refine blk_drewN ?_ _ | refine blk_drew ?_ | refine blk_alloc ?_ _)); refine blk_put (cs := #[.int .i64 0, .int .i64 0, .int .i64 0, .int .i64 0]) ?_ 0 _ rfl; (with_reducible repeat (first | refine blk_drewN ?_ _ | refine blk_drew ?_ | refine blk_alloc ?_ _)); exact BK255.out⟩, ⟨by repeat (first | (with_reducible first | exact HB.out | apply below_alloc | apply pw_below_drewN | apply below_drew1 | refine below_set ?_ GE233.out | refine below_set ?_ GE235.out | refine below_set ?_ GE237.out | refine below_set ?_ GE239.out | refine below_set ?_ GE247.out | refine below_set ?_ GE255.out) | exact HB.out)⟩⟩
      case round =>
       clear H'
       try clear c1
       try clear c2
       try clear p2
       try clear q2
       try clear hx2
       try clear qi2
       try clear c3
       try clear c4
       try clear c5
       try clear c5b0
       try clear c5b1
       try clear c6
       try clear c6b0
       try clear c6b1
       try clear c7
       try clear c7b0
       try clear c7b1
       try clear c8
       try clear c8b0
       try clear c8b1
       try clear c9
       try clear c16
       try clear c19
       try clear c20
       try clear c23
       try clear p23
       try clear q23
       try clear hx23
       try clear qi23
       try clear c24
       try clear c25
       try clear c27
       try clear c28
       try clear c29
       try clear c35
       try clear c36
       try clear c37
       try clear c38
       try clear c49
       try clear c50
       try clear c51
       try clear c52
       try clear c53
       try clear hcz14_0
       try clear hcz14_1
       try clear hcz17_0
       try clear hcz17_1
       try clear hcz21_0
       try clear hcz21_1
       try clear hcz26_0
       try clear hcz26_1
       try clear hcz27_0
       try clear hcz27_1
       try clear hcz28_0
       try clear hcz28_1
       try clear hcz29_0
       try clear hcz29_1
       try clear hcz39_0
       try clear hcz39_1
       try clear hcz39_2
       try clear hcz39_3
       try clear hcz40_0
       try clear hcz40_1
       try clear hcz41_0
       try clear hcz41_1
       try clear hcz42_0
       try clear hcz42_1
       try clear hcz43_0
       try clear hcz43_1
       try clear hcz54_0
       try clear hcz54_1
       try clear hcz54_2
       try clear hcz54_3
       try clear hfz14_0
       try clear hfz14_1
       try clear hfz17_0
       try clear hfz17_1
       try clear hfz21_0
       try clear hfz21_1
       try clear hfz26_0
       try clear hfz26_1
       try clear hfz27_0
       try clear hfz27_1
       try clear hfz28_0
       try clear hfz28_1
       try clear hfz29_0
       try clear hfz29_1
       try clear hfz39_0
       try clear hfz39_1
       try clear hfz39_2
       try clear hfz39_3
       try clear hfz40_0
       try clear hfz40_1
       try clear hfz41_0
       try clear hfz41_1
       try clear hfz42_0
       try clear hfz42_1
       try clear hfz43_0
       try clear hfz43_1
       try clear hfz54_0
       try clear hfz54_1
       try clear hfz54_2
       try clear hfz54_3
       try clear hx232_0
       try clear hx232_1
       try clear hx234_0
       try clear hx234_1
       try clear hx236_0
       try clear hx236_1
       try clear hx238_0
       try clear hx238_1
       try clear p232
       try clear p234
       try clear p236
       try clear p238
       try clear q232
       try clear q234
       try clear q236
       try clear q238
       obtain ⟨x10_1, rfl, HA, HK1, BK233, BK235, BK237, BK239, BK247, BK255, HB⟩ := hrel
       cases gk with
       | zero => exact absurd HA.out (by simp [laws_FnCurves.l0])
       | succ k1 =>
        have H := HA.out
        clear HA
        simp only [laws_FnCurves.l0] at H
        by_cases c55 : x10_1 ≤ 8
        ·rw [if_pos c55] at H
         have c55b0 : decide (x10_1 ≤ 8) = true := decide_eq_true c55
         clear c55
         by_cases c56 : x10_1 ≤ 4
         ·rw [if_pos c56] at H
          have c56b0 : decide (x10_1 ≤ 4) = true := decide_eq_true c56
          clear c56
          replace H := Option.bind_eq_some_iff.mp H
          obtain ⟨⟨t256, t257⟩, A570, H⟩ := H
          replace H : ((spec_InBox.f t243 t244 t245 t246 t256 t257).bind fun t258 => (if t258 = true then ((impl_CubicAt.f k1 ((rd_T34 t229 0).f0) ((rd_T34 t229 0).f1) ((rd_T34 t229 1).f0) ((rd_T34 t229 1).f1) ((rd_T34 t229 2).f0) ((rd_T34 t229 2).f1) ((rd_T34 t229 3).f0) ((rd_T34 t229 3).f1) x10_1).bind fun bt259 => ((spec_InBox.f t251 t252 t253 t254 bt259.1 bt259.2).bind fun t261 => (if t261 = true then ((impl_CubicAt.f k1 ((rd_T34 t229 0).f0) ((rd_T34 t229 0).f1) ((rd_T34 t229 1).f0) ((rd_T34 t229 1).f1) ((rd_T34 t229 2).f0) ((rd_T34 t229 2).f1) ((rd_T34 t229 3).f0) ((rd_T34 t229 3).f1) x10_1).bind fun bt262 => ((spec_CubicAt.f k1 ((rd_T34 t229 0).f0) ((rd_T34 t229 0).f1) ((rd_T34 t229 1).f0) ((rd_T34 t229 1).f1) ((rd_T34 t229 2).f0) ((rd_T34 t229 2).f1) ((rd_T34 t229 3).f0) ((rd_T34 t229 3).f1) x10_1).bind fun bt264 => (if (!(bt262.1 == bt264.1) || (!(bt262.2 == bt264.2))) = true then (some false) else (laws_FnCurves.l0 k1 (wrap64 (x10_1 + 1)) ((rd_T34 t229 0).f0) ((rd_T34 t229 0).f1) ((rd_T34 t229 1).f0) ((rd_T34 t229 1).f1) ((rd_T34 t229 2).f0) ((rd_T34 t229 2).f1) ((rd_T34 t229 3).f0) ((rd_T34 t229 3).f1) t243 t244 t245 t246 t251 t252 t253 t254)))) else (some false)))) else (some false))) = some r := H
          have A57 := Aside0.mk A570
          clear A570
          replace H := Option.bind_eq_some_iff.mp H
          obtain ⟨t258, A580, H⟩ := H
          replace H : (if t258 = true then ((impl_CubicAt.f k1 ((rd_T34 t229 0).f0) ((rd_T34 t229 0).f1) ((rd_T34 t229 1).f0) ((rd_T34 t229 1).f1) ((rd_T34 t229 2).f0) ((rd_T34 t229 2).f1) ((rd_T34 t229 3).f0) ((rd_T34 t229 3).f1) x10_1).bind fun bt259 => ((spec_InBox.f t251 t252 t253 t254 bt259.1 bt259.2).bind fun t261 => (if t261 = true then ((impl_CubicAt.f k1 ((rd_T34 t229 0).f0) ((rd_T34 t229 0).f1) ((rd_T34 t229 1).f0) ((rd_T34 t229 1).f1) ((rd_T34 t229 2).f0) ((rd_T34 t229 2).f1) ((rd_T34 t229 3).f0) ((rd_T34 t229 3).f1) x10_1).bind fun bt262 => ((spec_CubicAt.f k1 ((rd_T34 t229 0).f0) ((rd_T34 t229 0).f1) ((rd_T34 t229 1).f0) ((rd_T34 t229 1).f1) ((rd_T34 t229 2).f0) ((rd_T34 t229 2).f1) ((rd_T34 t229 3).f0) ((rd_T34 t229 3).f1) x10_1).bind fun bt264 => (if (!(bt262.1 == bt264.1) || (!(bt262.2 == bt264.2))) = true then (some false) else (laws_FnCurves.l0 k1 (wrap64 (x10_1 + 1)) ((rd_T34 t229 0).f0) ((rd_T34 t229 0).f1) ((rd_T34 t229 1).f0) ((rd_T34 t229 1).f1) ((rd_T34 t229 2).f0) ((rd_T34 t229 2).f1) ((rd_T34 t229 3).f0) ((rd_T34 t229 3).f1) t243 t244 t245 t246 t251 t252 t253 t254)))) else (some false)))) else (some false)) = some r := H
          have A58 := Aside0.mk A580
          clear A580
          by_cases c59 : t258 = true
          ·subst c59
           have H1 : ((impl_CubicAt.f k1 ((rd_T34 t229 0).f0) ((rd_T34 t229 0).f1) ((rd_T34 t229 1).f0) ((rd_T34 t229 1).f1) ((rd_T34 t229 2).f0) ((rd_T34 t229 2).f1) ((rd_T34 t229 3).f0) ((rd_T34 t229 3).f1) x10_1).bind fun bt259 => ((spec_InBox.f t251 t252 t253 t254 bt259.1 bt259.2).bind fun t261 => (if t261 = true then ((impl_CubicAt.f k1 ((rd_T34 t229 0).f0) ((rd_T34 t229 0).f1) ((rd_T34 t229 1).f0) ((rd_T34 t229 1).f1) ((rd_T34 t229 2).f0) ((rd_T34 t229 2).f1) ((rd_T34 t229 3).f0) ((rd_T34 t229 3).f1) x10_1).bind fun bt262 => ((spec_CubicAt.f k1 ((rd_T34 t229 0).f0) ((rd_T34 t229 0).f1) ((rd_T34 t229 1).f0) ((rd_T34 t229 1).f1) ((rd_T34 t229 2).f0) ((rd_T34 t229 2).f1) ((rd_T34 t229 3).f0) ((rd_T34 t229 3).f1) x10_1).bind fun bt264 => (if (!(bt262.1 == bt264.1) || (!(bt262.2 == bt264.2))) = true then (some false) else (laws_FnCurves.l0 k1 (wrap64 (x10_1 + 1)) ((rd_T34 t229 0).f0) ((rd_T34 t229 0).f1) ((rd_T34 t229 1).f0) ((rd_T34 t229 1).f1) ((rd_T34 t229 2).f0) ((rd_T34 t229 2).f1) ((rd_T34 t229 3).f0) ((rd_T34 t229 3).f1) t243 t244 t245 t246 t251 t252 t253 t254)))) else (some false)))) = some r := by rw [if_pos rfl] at H; exact H
           clear H
           have H := H1
           clear H1
           replace H := Option.bind_eq_some_iff.mp H
           obtain ⟨⟨t259, t260⟩, A600, H⟩ := H
           replace H : ((spec_InBox.f t251 t252 t253 t254 t259 t260).bind fun t261 => (if t261 = true then ((impl_CubicAt.f k1 ((rd_T34 t229 0).f0) ((rd_T34 t229 0).f1) ((rd_T34 t229 1).f0) ((rd_T34 t229 1).f1) ((rd_T34 t229 2).f0) ((rd_T34 t229 2).f1) ((rd_T34 t229 3).f0) ((rd_T34 t229 3).f1) x10_1).bind fun bt262 => ((spec_CubicAt.f k1 ((rd_T34 t229 0).f0) ((rd_T34 t229 0).f1) ((rd_T34 t229 1).f0) ((rd_T34 t229 1).f1) ((rd_T34 t229 2).f0) ((rd_T34 t229 2).f1) ((rd_T34 t229 3).f0) ((rd_T34 t229 3).f1) x10_1).bind fun bt264 => (if (!(bt262.1 == bt264.1) || (!(bt262.2 == bt264.2))) = true then (some false) else (laws_FnCurves.l0 k1 (wrap64 (x10_1 + 1)) ((rd_T34 t229 0).f0) ((rd_T34 t229 0).f1) ((rd_T34 t229 1).f0) ((rd_T34 t229 1).f1) ((rd_T34 t229 2).f0) ((rd_T34 t229 2).f1) ((rd_T34 t229 3).f0) ((rd_T34 t229 3).f1) t243 t244 t245 t246 t251 t252 t253 t254)))) else (some false))) = some r := H
           have A60 := Aside0.mk A600
           clear A600
           replace H := Option.bind_eq_some_iff.mp H
           obtain ⟨t261, A610, H⟩ := H
           replace H : (if t261 = true then ((impl_CubicAt.f k1 ((rd_T34 t229 0).f0) ((rd_T34 t229 0).f1) ((rd_T34 t229 1).f0) ((rd_T34 t229 1).f1) ((rd_T34 t229 2).f0) ((rd_T34 t229 2).f1) ((rd_T34 t229 3).f0) ((rd_T34 t229 3).f1) x10_1).bind fun bt262 => ((spec_CubicAt.f k1 ((rd_T34 t229 0).f0) ((rd_T34 t229 0).f1) ((rd_T34 t229 1).f0) ((rd_T34 t229 1).f1) ((rd_T34 t229 2).f0) ((rd_T34 t229 2).f1) ((rd_T34 t229 3).f0) ((rd_T34 t229 3).f1) x10_1).bind fun bt264 => (if (!(bt262.1 == bt264.1) || (!(bt262.2 == bt264.2))) = true then (some false) else (laws_FnCurves.l0 k1 (wrap64 (x10_1 + 1)) ((rd_T34 t229 0).f0) ((rd_T34 t229 0).f1) ((rd_T34 t229 1).f0) ((rd_T34 t229 1).f1) ((rd_T34 t229 2).f0) ((rd_T34 t229 2).f1) ((rd_T34 t229 3).f0) ((rd_T34 t229 3).f1) t243 t244 t245 t246 t251 t252 t253 t254)))) else (some false)) = some r := H
           have A61 := Aside0.mk A610
           clear A610
           by_cases c62 : t261 = true
           ·subst c62
            have H1 : ((impl_CubicAt.f k1 ((rd_T34 t229 0).f0) ((rd_T34 t229 0).f1) ((rd_T34 t229 1).f0) ((rd_T34 t229 1).f1) ((rd_T34 t229 2).f0) ((rd_T34 t229 2).f1) ((rd_T34 t229 3).f0) ((rd_T34 t229 3).f1) x10_1).bind fun bt262 => ((spec_CubicAt.f k1 ((rd_T34 t229 0).f0) ((rd_T34 t229 0).f1) ((rd_T34 t229 1).f0) ((rd_T34 t229 1).f1) ((rd_T34 t229 2).f0) ((rd_T34 t229 2).f1) ((rd_T34 t229 3).f0) ((rd_T34 t229 3).f1) x10_1).bind fun bt264 => (if (!(bt262.1 == bt264.1) || (!(bt262.2 == bt264.2))) = true then (some false) else (laws_FnCurves.l0 k1 (wrap64 (x10_1 + 1)) ((rd_T34 t229 0).f0) ((rd_T34 t229 0).f1) ((rd_T34 t229 1).f0) ((rd_T34 t229 1).f1) ((rd_T34 t229 2).f0) ((rd_T34 t229 2).f1) ((rd_T34 t229 3).f0) ((rd_T34 t229 3).f1) t243 t244 t245 t246 t251 t252 t253 t254)))) = some r := by rw [if_pos rfl] at H; exact H
            clear H
            have H := H1
            clear H1
            replace H := Option.bind_eq_some_iff.mp H
            obtain ⟨⟨t262, t263⟩, A630, H⟩ := H
            replace H : ((spec_CubicAt.f k1 ((rd_T34 t229 0).f0) ((rd_T34 t229 0).f1) ((rd_T34 t229 1).f0) ((rd_T34 t229 1).f1) ((rd_T34 t229 2).f0) ((rd_T34 t229 2).f1) ((rd_T34 t229 3).f0) ((rd_T34 t229 3).f1) x10_1).bind fun bt264 => (if (!(t262 == bt264.1) || (!(t263 == bt264.2))) = true then (some false) else (laws_FnCurves.l0 k1 (wrap64 (x10_1 + 1)) ((rd_T34 t229 0).f0) ((rd_T34 t229 0).f1) ((rd_T34 t229 1).f0) ((rd_T34 t229 1).f1) ((rd_T34 t229 2).f0) ((rd_T34 t229 2).f1) ((rd_T34 t229 3).f0) ((rd_T34 t229 3).f1) t243 t244 t245 t246 t251 t252 t253 t254))) = some r := H
            have A63 := Aside0.mk A630
            clear A630
            replace H := Option.bind_eq_some_iff.mp H
            obtain ⟨⟨t264, t265⟩, A640, H⟩ := H
            replace H : (if (!(t262 == t264) || (!(t263 == t265))) = true then (some false) else (laws_FnCurves.l0 k1 (wrap64 (x10_1 + 1)) ((rd_T34 t229 0).f0) ((rd_T34 t229 0).f1) ((rd_T34 t229 1).f0) ((rd_T34 t229 1).f1) ((rd_T34 t229 2).f0) ((rd_T34 t229 2).f1) ((rd_T34 t229 3).f0) ((rd_T34 t229 3).f1) t243 t244 t245 t246 t251 t252 t253 t254)) = some r := H
            have A64 := Aside0.mk A640
            clear A640
            by_cases c65 : (!(t262 == t264) || (!(t263 == t265))) = true
            ·rw [if_pos c65] at H
             have c65b0 : (!(t262 == t264) || (!(t263 == t265))) = true := c65
             clear c65
             obtain rfl := Option.some.inj H
             exact absurd hr_ (by decide)
            ·rw [if_neg c65] at H
             have c65b0 : (!(t262 == t264) || (!(t263 == t265))) = false := by simpa using c65
             clear c65
             have H' := Aside0.mk H
             clear H
             try go_wp2
             have n0_ := Aside0.mk (blk_drew BK233.out)
             have n1_ := Aside0.mk (blk_drew BK235.out)
             have n2_ := Aside0.mk (blk_drew BK237.out)
             have n3_ := Aside0.mk (blk_drew BK239.out)
             have n4_ := Aside0.mk (blk_drew BK247.out)
             have n5_ := Aside0.mk (blk_drew BK255.out)
             have n6_ := Aside0.mk (below_drew1 HB.out)
             clear BK233
             clear BK235
             clear BK237
             clear BK239
             clear BK247
             clear BK255
             clear HB
             have BK233 := n0_
             have BK235 := n1_
             have BK237 := n2_
             have BK239 := n3_
             have BK247 := n4_
             have BK255 := n5_
             have HB := n6_
             clear n0_ n1_ n2_ n3_ n4_ n5_ n6_
             refine start_ (n := 38) (S := fun w' => w'.cell? ⟨gb247, 0, none⟩ = some (.int .i64 t243) ∧ w'.cell? ⟨gb247, 1, none⟩ = some (.int .i64 t244) ∧ w'.cell? ⟨gb247, 2, none⟩ = some (.int .i64 t245) ∧ w'.cell? ⟨gb247, 3, none⟩ = some (.int .i64 t246) ∧ w'.cell? ⟨gb233, 0, none⟩ = some (.int .i64 ((rd_T34 t229 0).f0)) ∧ w'.cell? ⟨gb233, 1, none⟩ = some (.int .i64 ((rd_T34 t229 0).f1)) ∧ w'.cell? ⟨gb235, 0, none⟩ = some (.int .i64 ((rd_T34 t229 1).f0)) ∧ w'.cell? ⟨gb235, 1, none⟩ = some (.int .i64 ((rd_T34 t229 1).f1)) ∧ w'.cell? ⟨gb237, 0, none⟩ = some (.int .i64 ((rd_T34 t229 2).f0)) ∧ w'.cell? ⟨gb237, 1, none⟩ = some (.int .i64 ((rd_T34 t229 2).f1)) ∧ w'.cell? ⟨gb255, 0, none⟩ = some (.int .i64 t251) ∧ w'.cell? ⟨gb255, 1, none⟩ = some (.int .i64 t252) ∧ w'.cell? ⟨gb255, 2, none⟩ = some (.int .i64 t253) ∧ w'.cell? ⟨gb255, 3, none⟩ = some (.int .i64 t254) ∧ w'.cell? ⟨gb239, 0, none⟩ = some (.int .i64 ((rd_T34 t229 3).f0)) ∧ w'.cell? ⟨gb239, 1, none⟩ = some (.int .i64 ((rd_T34 t229 3).f1))) (ds := []) #[false, false, false, false, false, false, false, false, false, false, false, false, false, false, false, false, false, false, false, false, false, false, false, false, false, false, false, false, false, false, false, false, false, false, false, false, false, false] (by kernel_rfl) rfl rfl ⟨(blk_cell BK247.out 0).trans rfl, (blk_cell BK247.out 1).trans rfl, (blk_cell BK247.out 2).trans rfl, (blk_cell BK247.out 3).trans rfl, (blk_cell BK233.out 0).trans rfl, (blk_cell BK233.out 1).trans rfl, (blk_cell BK235.out 0).trans rfl, (blk_cell BK235.out 1).trans rfl, (blk_cell BK237.out 0).trans rfl, (blk_cell BK237.out 1).trans rfl, (blk_cell BK255.out 0).trans rfl, (blk_cell BK255.out 1).trans rfl, (blk_cell BK255.out 2).trans rfl, (blk_cell BK255.out 3).trans rfl, (blk_cell BK239.out 0).trans rfl, (blk_cell BK239.out 1).trans rfl⟩ (fun hHeld => ?_); refine with_tabW laws_FnCurves.tab13 laws_FnCurves.bits13 (fun HT_ HW_ => ?_)
             generalize wr.drew = w73 at BK233 BK235 BK237 BK239 BK247 BK255 HB hHeld ⊢
             refine pure_ (i := 0) (N := some 42) (v := ?_) (a' := ?_) #[true, false, false, false, false, false, false, false, false, false, false, false, false, false, false, false, false, false, false, false, false, false, false, false, false, false, false, false, false, false, false, false, false, false, false, false, false, false] rfl rfl (any_of HT_.out (by kernel_rfl)) (fun _ _ _ h => h) (Or.inl ⟨by rfl, ?_⟩) ?_ ?_
             rotate_left
             ·intro w'
              go_simp
              with_reducible rfl
             rotate_left
             ·simp only [Act.put, List.setIfInBounds_toArray, List.set_cons_zero, List.set_cons_succ, i64_w, i32_w]
              rfl
             refine pure_ (i := 1) (N := some 43) (v := ?_) (a' := ?_) #[true, true, false, false, false, false, false, false, false, false, false, false, false, false, false, false, false, false, false, false, false, false, false, false, false, false, false, false, false, false, false, false, false, false, false, false, false, false] rfl rfl (any_of HT_.out (by kernel_rfl)) (fun _ _ _ h => h) (Or.inl ⟨by rfl, ?_⟩) ?_ ?_
             rotate_left
             ·intro w'
              go_simp
              with_reducible rfl
             rotate_left
             ·simp only [Act.put, List.setIfInBounds_toArray, List.set_cons_zero, List.set_cons_succ, i64_w, i32_w]
              rfl
             refine pure_ (i := 2) (N := some 44) (v := ?_) (a' := ?_) #[true, true, true, false, false, false, false, false, false, false, false, false, false, false, false, false, false, false, false, false, false, false, false, false, false, false, false, false, false, false, false, false, false, false, false, false, false, false] rfl rfl (any_of HT_.out (by kernel_rfl)) (fun _ _ _ h => h) (Or.inl ⟨by rfl, ?_⟩) ?_ ?_
             rotate_left
             ·intro w'
              go_simp
              with_reducible rfl
             rotate_left
             ·simp only [Act.put, List.setIfInBounds_toArray, List.set_cons_zero, List.set_cons_succ, i64_w, i32_w]
              rfl
             refine pure_ (i := 7) (N := some 49) (v := ?_) (a' := ?_) #[true, true, true, false, false, false, false, true, false, false, false, false, false, false, false, false, false, false, false, false, false, false, false, false, false, false, false, false, false, false, false, false, false, false, false, false, false, false] rfl rfl (any_of HT_.out (by kernel_rfl)) (fun _ _ _ h => h) (Or.inl ⟨by rfl, ?_⟩) ?_ ?_
             rotate_left
             ·intro w'
              go_simp
              with_reducible rfl
             rotate_left
             ·simp only [Act.put, List.setIfInBounds_toArray, List.set_cons_zero, List.set_cons_succ, i64_w, i32_w]
              rfl
             refine take_ (i := 3) (N := some 45) (v := ?_) (a' := ?_) #[true, true, true, true, false, false, false, true, false, false, false, false, false, false, false, false, false, false, false, false, false, false, false, false, false, false, false, false, false, false, false, false, false, false, false, false, false, false] rfl rfl (take_ofW HT_.out HW_.out (by kernel_rfl)) (fun _ _ _ h => h) (Or.inl ⟨by rfl, ?_⟩) hHeld ?_ ?_
             rotate_left
             ·rintro w' ⟨s0, s1, s2, s3, s4, s5, s6, s7, s8, s9, s10, s11, s12, s13, s14, s15⟩
              go_simp
              with_reducible rfl
             rotate_left
             ·simp only [Act.put, List.setIfInBounds_toArray, List.set_cons_zero, List.set_cons_succ, i64_w, i32_w]
              rfl
             refine take_ (i := 4) (N := some 46) (v := ?_) (a' := ?_) #[true, true, true, true, true, false, false, true, false, false, false, false, false, false, false, false, false, false, false, false, false, false, false, false, false, false, false, false, false, false, false, false, false, false, false, false, false, false] rfl rfl (take_ofW HT_.out HW_.out (by kernel_rfl)) (fun _ _ _ h => h) (Or.inl ⟨by rfl, ?_⟩) hHeld ?_ ?_
             rotate_left
             ·rintro w' ⟨s0, s1, s2, s3, s4, s5, s6, s7, s8, s9, s10, s11, s12, s13, s14, s15⟩
              go_simp
              with_reducible rfl
             rotate_left
             ·simp only [Act.put, List.setIfInBounds_toArray, List.set_cons_zero, List.set_cons_succ, i64_w, i32_w]
              rfl
             refine take_ (i := 5) (N := some 47) (v := ?_) (a' := ?_) #[true, true, true, true, true, true, false, true, false, false, false, false, false, false, false, false, false, false, false, false, false, false, false, false, false, false, false, false, false, false, false, false, false, false, false, false, false, false] rfl rfl (take_ofW HT_.out HW_.out (by kernel_rfl)) (fun _ _ _ h => h) (Or.inl ⟨by rfl, ?_⟩) hHeld ?_ ?_
             rotate_left
             ·rintro w' ⟨s0, s1, s2, s3, s4, s5, s6, s7, s8, s9, s10, s11, s12, s13, s14, s15⟩
              go_simp
              with_reducible rfl
             rotate_left
             ·simp only [Act.put, List.setIfInBounds_toArray, List.set_cons_zero, List.set_cons_succ, i64_w, i32_w]
              rfl
             refine take_ (i := 6) (N := some 48) (v := ?_) (a' := ?_) #[true, true, true, true, true, true, true, true, false, false, false, false, false, false, false, false, false, false, false, false, false, false, false, false, false, false, false, false, false, false, false, false, false, false, false, false, false, false] rfl rfl (take_ofW HT_.out HW_.out (by kernel_rfl)) (fun _ _ _ h => h) (Or.inl ⟨by rfl, ?_⟩) hHeld ?_ ?_
             rotate_left
             ·rintro w' ⟨s0, s1, s2, s3, s4, s5, s6, s7, s8, s9, s10, s11, s12, s13, s14, s15⟩
              go_simp
              with_reducible rfl
             rotate_left
             ·simp only [Act.put, List.setIfInBounds_toArray, List.set_cons_zero, List.set_cons_succ, i64_w, i32_w]
              rfl
             refine one_ (i := 8) (N := some 50) #[true, true, true, true, true, true, true, true, true, false, false, false, false, false, false, false, false, false, false, false, false, false, false, false, false, false, false, false, false, false, false, false, false, false, false, false, false, false] rfl rfl (one_of HT_.out (by kernel_rfl)) (by decide) (fun K hK => ?_)
             refine goes_ Try.func30 (by kernel_rfl) rfl #[.agg #[.int .i64 ((rd_T34 t229 0).f0), .int .i64 ((rd_T34 t229 0).f1)], .agg #[.int .i64 ((rd_T34 t229 1).f0), .int .i64 ((rd_T34 t229 1).f1)], .agg #[.int .i64 ((rd_T34 t229 2).f0), .int .i64 ((rd_T34 t229 2).f1)], .int .i64 x10_1] (by rfl) rfl rfl (by (try simp only [List.map_toArray, List.map_cons, List.map_nil]); first | done | rfl | (simp only [List.length_drop, List.length_take]; rfl)) ?_
             with_reducible refine (impl_QuadAt.calls k1 ((rd_T34 t229 0).f0) ((rd_T34 t229 0).f1) ((rd_T34 t229 1).f0) ((rd_T34 t229 1).f1) ((rd_T34 t229 2).f0) ((rd_T34 t229 2).f1) x10_1 t256 t257 _ A57.out).mono ?_
             rintro e w74 ⟨rfl, hb⟩
             refine ⟨_, rfl, ?_⟩
             have n0_ := Aside0.mk (blk_below (g := gb233) (o := .cells #[.int .i64 ((rd_T34 t229 0).f0), .int .i64 ((rd_T34 t229 0).f1)] 34 (0, 0)) (by (with_reducible repeat (first | refine blk_drewN ?_ _ | refine blk_drew ?_ | refine blk_alloc ?_ _)); exact BK233.out) hb)
             have n1_ := Aside0.mk (blk_below (g := gb235) (o := .cells #[.int .i64 ((rd_T34 t229 1).f0), .int .i64 ((rd_T34 t229 1).f1)] 34 (0, 0)) (by (with_reducible repeat (first | refine blk_drewN ?_ _ | refine blk_drew ?_ | refine blk_alloc ?_ _)); exact BK235.out) hb)
             have n2_ := Aside0.mk (blk_below (g := gb237) (o := .cells #[.int .i64 ((rd_T34 t229 2).f0), .int .i64 ((rd_T34 t229 2).f1)] 34 (0, 0)) (by (with_reducible repeat (first | refine blk_drewN ?_ _ | refine blk_drew ?_ | refine blk_alloc ?_ _)); exact BK237.out) hb)
             have n3_ := Aside0.mk (blk_below (g := gb239) (o := .cells #[.int .i64 ((rd_T34 t229 3).f0), .int .i64 ((rd_T34 t229 3).f1)] 34 (0, 0)) (by (with_reducible repeat (first | refine blk_drewN ?_ _ | refine blk_drew ?_ | refine blk_alloc ?_ _)); exact BK239.out) hb)
             have n4_ := Aside0.mk (blk_below (g := gb247) (o := .cells #[.int .i64 t243, .int .i64 t244, .int .i64 t245, .int .i64 t246] 26 (0, 0)) (by (with_reducible repeat (first | refine blk_drewN ?_ _ | refine blk_drew ?_ | refine blk_alloc ?_ _)); exact BK247.out) hb)
             have n5_ := Aside0.mk (blk_below (g := gb255) (o := .cells #[.int .i64 t251, .int .i64 t252, .int .i64 t253, .int .i64 t254] 26 (0, 0)) (by (with_reducible repeat (first | refine blk_drewN ?_ _ | refine blk_drew ?_ | refine blk_alloc ?_ _)); exact BK255.out) hb)
             have n6_ := Aside0.mk (below_step (by repeat (first | (with_reducible first | exact HB.out | apply below_alloc | apply pw_below_drewN | apply below_drew1 | refine below_set ?_ GE233.out | refine below_set ?_ GE235.out | refine below_set ?_ GE237.out | refine below_set ?_ GE239.out | refine below_set ?_ GE247.out | refine below_set ?_ GE255.out) | exact HB.out)) hb)
             clear BK233
             clear BK235
             clear BK237
             clear BK239
             clear BK247
             clear BK255
             clear HB
             have BK233 := n0_
             have BK235 := n1_
             have BK237 := n2_
             have BK239 := n3_
             have BK247 := n4_
             have BK255 := n5_
             have HB := n6_
             clear n0_ n1_ n2_ n3_ n4_ n5_ n6_
             (try clear hb)
             (try clear hb2)
             (try clear hk)
             (try clear hi)
             refine hK.out _ _ ⟨(blk_cell BK247.out 0).trans rfl, (blk_cell BK247.out 1).trans rfl, (blk_cell BK247.out 2).trans rfl, (blk_cell BK247.out 3).trans rfl, (blk_cell BK233.out 0).trans rfl, (blk_cell BK233.out 1).trans rfl, (blk_cell BK235.out 0).trans rfl, (blk_cell BK235.out 1).trans rfl, (blk_cell BK237.out 0).trans rfl, (blk_cell BK237.out 1).trans rfl, (blk_cell BK255.out 0).trans rfl, (blk_cell BK255.out 1).trans rfl, (blk_cell BK255.out 2).trans rfl, (blk_cell BK255.out 3).trans rfl, (blk_cell BK239.out 0).trans rfl, (blk_cell BK239.out 1).trans rfl⟩ (fun hHeld => ?_)
             clear hK K
             refine norm_ (a' := ?_) ?_ ?_
             rotate_left
             ·show Act.put _ (some 50) _ = _
              simp only [Act.put, List.setIfInBounds_toArray, List.set_cons_zero, List.set_cons_succ, i64_w, i32_w]
              rfl
             refine one_ (i := 9) (N := some 51) #[true, true, true, true, true, true, true, true, true, true, false, false, false, false, false, false, false, false, false, false, false, false, false, false, false, false, false, false, false, false, false, false, false, false, false, false, false, false] rfl rfl (one_of HT_.out (by kernel_rfl)) (by decide) (fun K hK => ?_)
             refine goes_ Try.func25 (by kernel_rfl) rfl #[.agg #[.int .i64 t243, .int .i64 t244, .int .i64 t245, .int .i64 t246], .agg #[.int .i64 t256, .int .i64 t257]] (by rfl) rfl rfl (by (try simp only [List.map_toArray, List.map_cons, List.map_nil]); first | done | rfl | (simp only [List.length_drop, List.length_take]; rfl)) ?_
             with_reducible refine (spec_InBox.calls t243 t244 t245 t246 t256 t257 true _ A58.out).mono ?_
             rintro e w75 ⟨rfl, hb⟩
             refine ⟨_, rfl, ?_⟩
             have n0_ := Aside0.mk (blk_below (g := gb233) (o := .cells #[.int .i64 ((rd_T34 t229 0).f0), .int .i64 ((rd_T34 t229 0).f1)] 34 (0, 0)) (by (with_reducible repeat (first | refine blk_drewN ?_ _ | refine blk_drew ?_ | refine blk_alloc ?_ _)); exact BK233.out) hb)
             have n1_ := Aside0.mk (blk_below (g := gb235) (o := .cells #[.int .i64 ((rd_T34 t229 1).f0), .int .i64 ((rd_T34 t229 1).f1)] 34 (0, 0)) (by (with_reducible repeat (first | refine blk_drewN ?_ _ | refine blk_drew ?_ | refine blk_alloc ?_ _)); exact BK235.out) hb)
             have n2_ := Aside0.mk (blk_below (g := gb237) (o := .cells #[.int .i64 ((rd_T34 t229 2).f0), .int .i64 ((rd_T34 t229 2).f1)] 34 (0, 0)) (by (with_reducible repeat (first | refine blk_drewN ?_ _ | refine blk_drew ?_ | refine blk_alloc ?_ _)); exact BK237.out) hb)
             have n3_ := Aside0.mk (blk_below (g := gb239) (o := .cells #[.int .i64 ((rd_T34 t229 3).f0), .int .i64 ((rd_T34 t229 3).f1)] 34 (0, 0)) (by (with_reducible repeat (first | refine blk_drewN ?_ _ | refine blk_drew ?_ | refine blk_alloc ?_ _)); exact BK239.out) hb)
             have n4_ := Aside0.mk (blk_below (g := gb247) (o := .cells #[.int .i64 t243, .int .i64 t244, .int .i64 t245, .int .i64 t246] 26 (0, 0)) (by (with_reducible repeat (first | refine blk_drewN ?_ _ | refine blk_drew ?_ | refine blk_alloc ?_ _)); exact BK247.out) hb)
             have n5_ := Aside0.mk (blk_below (g := gb255) (o := .cells #[.int .i64 t251, .int .i64 t252, .int .i64 t253, .int .i64 t254] 26 (0, 0)) (by (with_reducible repeat (first | refine blk_drewN ?_ _ | refine blk_drew ?_ | refine blk_alloc ?_ _)); exact BK255.out) hb)
             have n6_ := Aside0.mk (below_step (by repeat (first | (with_reducible first | exact HB.out | apply below_alloc | apply pw_below_drewN | apply below_drew1 | refine below_set ?_ GE233.out | refine below_set ?_ GE235.out | refine below_set ?_ GE237.out | refine below_set ?_ GE239.out | refine below_set ?_ GE247.out | refine below_set ?_ GE255.out) | exact HB.out)) hb)
             clear BK233
             clear BK235
             clear BK237
             clear BK239
             clear BK247
             clear BK255
             clear HB
             have BK233 := n0_
             have BK235 := n1_
             have BK237 := n2_
             have BK239 := n3_
             have BK247 := n4_
             have BK255 := n5_
             have HB := n6_
             clear n0_ n1_ n2_ n3_ n4_ n5_ n6_
             (try clear hb)
             (try clear hb2)
             (try clear hk)
             (try clear hi)
             refine hK.out _ _ ⟨(blk_cell BK247.out 0).trans rfl, (blk_cell BK247.out 1).trans rfl, (blk_cell BK247.out 2).trans rfl, (blk_cell BK247.out 3).trans rfl, (blk_cell BK233.out 0).trans rfl, (blk_cell BK233.out 1).trans rfl, (blk_cell BK235.out 0).trans rfl, (blk_cell BK235.out 1).trans rfl, (blk_cell BK237.out 0).trans rfl, (blk_cell BK237.out 1).trans rfl, (blk_cell BK255.out 0).trans rfl, (blk_cell BK255.out 1).trans rfl, (blk_cell BK255.out 2).trans rfl, (blk_cell BK255.out 3).trans rfl, (blk_cell BK239.out 0).trans rfl, (blk_cell BK239.out 1).trans rfl⟩ (fun hHeld => ?_)
             clear hK K
             refine norm_ (a' := ?_) ?_ ?_
             rotate_left
             ·show Act.put _ (some 51) _ = _
              simp only [Act.put, List.setIfInBounds_toArray, List.set_cons_zero, List.set_cons_succ, i64_w, i32_w]
              rfl
             refine pure_ (i := 10) (N := some 52) (v := ?_) (a' := ?_) #[true, true, true, true, true, true, true, true, true, true, true, false, false, false, false, false, false, false, false, false, false, false, false, false, false, false, false, false, false, false, false, false, false, false, false, false, false, false] rfl rfl (any_of HT_.out (by kernel_rfl)) (fun _ _ _ h => h) (Or.inl ⟨by rfl, ?_⟩) ?_ ?_
             rotate_left
             ·intro w'
              go_simp
              with_reducible rfl
             rotate_left
             ·simp only [Act.put, List.setIfInBounds_toArray, List.set_cons_zero, List.set_cons_succ, i64_w, i32_w]
              rfl
             refine pure_ (i := 11) (N := some 53) (v := ?_) (a' := ?_) #[true, true, true, true, true, true, true, true, true, true, true, true, false, false, false, false, false, false, false, false, false, false, false, false, false, false, false, false, false, false, false, false, false, false, false, false, false, false] rfl rfl (any_of HT_.out (by kernel_rfl)) (fun _ _ _ h => h) (Or.inl ⟨by rfl, ?_⟩) ?_ ?_
             rotate_left
             ·intro w'
              go_simp
              with_reducible rfl
             rotate_left
             ·simp only [Act.put, List.setIfInBounds_toArray, List.set_cons_zero, List.set_cons_succ, i64_w, i32_w]
              rfl
             refine pure_ (i := 12) (N := some 54) (v := ?_) (a' := ?_) #[true, true, true, true, true, true, true, true, true, true, true, true, true, false, false, false, false, false, false, false, false, false, false, false, false, false, false, false, false, false, false, false, false, false, false, false, false, false] rfl rfl (any_of HT_.out (by kernel_rfl)) (fun _ _ _ h => h) (Or.inl ⟨by rfl, ?_⟩) ?_ ?_
             rotate_left
             ·intro w'
              go_simp
              with_reducible rfl
             rotate_left
             ·simp only [Act.put, List.setIfInBounds_toArray, List.set_cons_zero, List.set_cons_succ, i64_w, i32_w]
              rfl
             refine pure_ (i := 18) (N := some 60) (v := ?_) (a' := ?_) #[true, true, true, true, true, true, true, true, true, true, true, true, true, false, false, false, false, false, true, false, false, false, false, false, false, false, false, false, false, false, false, false, false, false, false, false, false, false] rfl rfl (any_of HT_.out (by kernel_rfl)) (fun _ _ _ h => h) (Or.inl ⟨by rfl, ?_⟩) ?_ ?_
             rotate_left
             ·intro w'
              go_simp
              with_reducible rfl
             rotate_left
             ·simp only [Act.put, List.setIfInBounds_toArray, List.set_cons_zero, List.set_cons_succ, i64_w, i32_w]
              rfl
             refine take_ (i := 13) (N := some 55) (v := ?_) (a' := ?_) #[true, true, true, true, true, true, true, true, true, true, true, true, true, true, false, false, false, false, true, false, false, false, false, false, false, false, false, false, false, false, false, false, false, false, false, false, false, false] rfl rfl (take_ofW HT_.out HW_.out (by kernel_rfl)) (fun _ _ _ h => h) (Or.inl ⟨by rfl, ?_⟩) hHeld ?_ ?_
             rotate_left
             ·rintro w' ⟨s0, s1, s2, s3, s4, s5, s6, s7, s8, s9, s10, s11, s12, s13, s14, s15⟩
              go_simp
              with_reducible rfl
             rotate_left
             ·simp only [Act.put, List.setIfInBounds_toArray, List.set_cons_zero, List.set_cons_succ, i64_w, i32_w]
              rfl
             refine take_ (i := 14) (N := some 56) (v := ?_) (a' := ?_) #[true, true, true, true, true, true, true, true, true, true, true, true, true, true, true, false, false, false, true, false, false, false, false, false, false, false, false, false, false, false, false, false, false, false, false, false, false, false] rfl rfl (take_ofW HT_.out HW_.out (by kernel_rfl)) (fun _ _ _ h => h) (Or.inl ⟨by rfl, ?_⟩) hHeld ?_ ?_
             rotate_left
             ·rintro w' ⟨s0, s1, s2, s3, s4, s5, s6, s7, s8, s9, s10, s11, s12, s13, s14, s15⟩
              go_simp
              with_reducible rfl
             rotate_left
             ·simp only [Act.put, List.setIfInBounds_toArray, List.set_cons_zero, List.set_cons_succ, i64_w, i32_w]
              rfl
             refine take_ (i := 15) (N := some 57) (v := ?_) (a' := ?_) #[true, true, true, true, true, true, true, true, true, true, true, true, true, true, true, true, false, false, true, false, false, false, false, false, false, false, false, false, false, false, false, false, false, false, false, false, false, false] rfl rfl (take_ofW HT_.out HW_.out (by kernel_rfl)) (fun _ _ _ h => h) (Or.inl ⟨by rfl, ?_⟩) hHeld ?_ ?_
             rotate_left
             ·rintro w' ⟨s0, s1, s2, s3, s4, s5, s6, s7, s8, s9, s10, s11, s12, s13, s14, s15⟩
              go_simp
              with_reducible rfl
             rotate_left
             ·simp only [Act.put, List.setIfInBounds_toArray, List.set_cons_zero, List.set_cons_succ, i64_w, i32_w]
              rfl
             refine take_ (i := 16) (N := some 58) (v := ?_) (a' := ?_) #[true, true, true, true, true, true, true, true, true, true, true, true, true, true, true, true, true, false, true, false, false, false, false, false, false, false, false, false, false, false, false, false, false, false, false, false, false, false] rfl rfl (take_ofW HT_.out HW_.out (by kernel_rfl)) (fun _ _ _ h => h) (Or.inl ⟨by rfl, ?_⟩) hHeld ?_ ?_
             rotate_left
             ·rintro w' ⟨s0, s1, s2, s3, s4, s5, s6, s7, s8, s9, s10, s11, s12, s13, s14, s15⟩
              go_simp
              with_reducible rfl
             rotate_left
             ·simp only [Act.put, List.setIfInBounds_toArray, List.set_cons_zero, List.set_cons_succ, i64_w, i32_w]
              rfl
             refine take_ (i := 17) (N := some 59) (v := ?_) (a' := ?_) #[true, true, true, true, true, true, true, true, true, true, true, true, true, true, true, true, true, true, true, false, false, false, false, false, false, false, false, false, false, false, false, false, false, false, false, false, false, false] rfl rfl (take_ofW HT_.out HW_.out (by kernel_rfl)) (fun _ _ _ h => h) (Or.inl ⟨by rfl, ?_⟩) hHeld ?_ ?_
             rotate_left
             ·rintro w' ⟨s0, s1, s2, s3, s4, s5, s6, s7, s8, s9, s10, s11, s12, s13, s14, s15⟩
              go_simp
              with_reducible rfl
             rotate_left
             ·simp only [Act.put, List.setIfInBounds_toArray, List.set_cons_zero, List.set_cons_succ, i64_w, i32_w]
              rfl
             refine one_ (i := 19) (N := some 61) #[true, true, true, true, true, true, true, true, true, true, true, true, true, true, true, true, true, true, true, true, false, false, false, false, false, false, false, false, false, false, false, false, false, false, false, false, false, false] rfl rfl (one_of HT_.out (by kernel_rfl)) (by decide) (fun K hK => ?_)
             refine goes_ Try.func31 (by kernel_rfl) rfl #[.agg #[.int .i64 ((rd_T34 t229 0).f0), .int .i64 ((rd_T34 t229 0).f1)], .agg #[.int .i64 ((rd_T34 t229 1).f0), .int .i64 ((rd_T34 t229 1).f1)], .agg #[.int .i64 ((rd_T34 t229 2).f0), .int .i64 ((rd_T34 t229 2).f1)], .agg #[.int .i64 ((rd_T34 t229 3).f0), .int .i64 ((rd_T34 t229 3).f1)], .int .i64 x10_1] (by rfl) rfl rfl (by (try simp only [List.map_toArray, List.map_cons, List.map_nil]); first | done | rfl | (simp only [List.length_drop, List.length_take]; rfl)) ?_
             with_reducible refine (impl_CubicAt.calls k1 ((rd_T34 t229 0).f0) ((rd_T34 t229 0).f1) ((rd_T34 t229 1).f0) ((rd_T34 t229 1).f1) ((rd_T34 t229 2).f0) ((rd_T34 t229 2).f1) ((rd_T34 t229 3).f0) ((rd_T34 t229 3).f1) x10_1 t259 t260 _ A60.out).mono ?_
             rintro e w76 ⟨rfl, hb⟩
             refine ⟨_, rfl, ?_⟩
             have n0_ := Aside0.mk (blk_below (g := gb233) (o := .cells #[.int .i64 ((rd_T34 t229 0).f0), .int .i64 ((rd_T34 t229 0).f1)] 34 (0, 0)) (by (with_reducible repeat (first | refine blk_drewN ?_ _ | refine blk_drew ?_ | refine blk_alloc ?_ _)); exact BK233.out) hb)
             have n1_ := Aside0.mk (blk_below (g := gb235) (o := .cells #[.int .i64 ((rd_T34 t229 1).f0), .int .i64 ((rd_T34 t229 1).f1)] 34 (0, 0)) (by (with_reducible repeat (first | refine blk_drewN ?_ _ | refine blk_drew ?_ | refine blk_alloc ?_ _)); exact BK235.out) hb)
             have n2_ := Aside0.mk (blk_below (g := gb237) (o := .cells #[.int .i64 ((rd_T34 t229 2).f0), .int .i64 ((rd_T34 t229 2).f1)] 34 (0, 0)) (by (with_reducible repeat (first | refine blk_drewN ?_ _ | refine blk_drew ?_ | refine blk_alloc ?_ _)); exact BK237.out) hb)
             have n3_ := Aside0.mk (blk_below (g := gb239) (o := .cells #[.int .i64 ((rd_T34 t229 3).f0), .int .i64 ((rd_T34 t229 3).f1)] 34 (0, 0)) (by (with_reducible repeat (first | refine blk_drewN ?_ _ | refine blk_drew ?_ | refine blk_alloc ?_ _)); exact BK239.out) hb)
             have n4_ := Aside0.mk (blk_below (g := gb247) (o := .cells #[.int .i64 t243, .int .i64 t244, .int .i64 t245, .int .i64 t246] 26 (0, 0)) (by (with_reducible repeat (first | refine blk_drewN ?_ _ | refine blk_drew ?_ | refine blk_alloc ?_ _)); exact BK247.out) hb)
             have n5_ := Aside0.mk (blk_below (g := gb255) (o := .cells #[.int .i64 t251, .int .i64 t252, .int .i64 t253, .int .i64 t254] 26 (0, 0)) (by (with_reducible repeat (first | refine blk_drewN ?_ _ | refine blk_drew ?_ | refine blk_alloc ?_ _)); exact BK255.out) hb)
             have n6_ := Aside0.mk (below_step (by repeat (first | (with_reducible first | exact HB.out | apply below_alloc | apply pw_below_drewN | apply below_drew1 | refine below_set ?_ GE233.out | refine below_set ?_ GE235.out | refine below_set ?_ GE237.out | refine below_set ?_ GE239.out | refine below_set ?_ GE247.out | refine below_set ?_ GE255.out) | exact HB.out)) hb)
             clear BK233
             clear BK235
             clear BK237
             clear BK239
             clear BK247
             clear BK255
             clear HB
             have BK233 := n0_
             have BK235 := n1_
             have BK237 := n2_
             have BK239 := n3_
             have BK247 := n4_
             have BK255 := n5_
             have HB := n6_
             clear n0_ n1_ n2_ n3_ n4_ n5_ n6_
             (try clear hb)
             (try clear hb2)
             (try clear hk)
             (try clear hi)
             refine hK.out _ _ ⟨(blk_cell BK247.out 0).trans rfl, (blk_cell BK247.out 1).trans rfl, (blk_cell BK247.out 2).trans rfl, (blk_cell BK247.out 3).trans rfl, (blk_cell BK233.out 0).trans rfl, (blk_cell BK233.out 1).trans rfl, (blk_cell BK235.out 0).trans rfl, (blk_cell BK235.out 1).trans rfl, (blk_cell BK237.out 0).trans rfl, (blk_cell BK237.out 1).trans rfl, (blk_cell BK255.out 0).trans rfl, (blk_cell BK255.out 1).trans rfl, (blk_cell BK255.out 2).trans rfl, (blk_cell BK255.out 3).trans rfl, (blk_cell BK239.out 0).trans rfl, (blk_cell BK239.out 1).trans rfl⟩ (fun hHeld => ?_)
             clear hK K
             refine norm_ (a' := ?_) ?_ ?_
             rotate_left
             ·show Act.put _ (some 61) _ = _
              simp only [Act.put, List.setIfInBounds_toArray, List.set_cons_zero, List.set_cons_succ, i64_w, i32_w]
              rfl
             refine one_ (i := 20) (N := some 62) #[true, true, true, true, true, true, true, true, true, true, true, true, true, true, true, true, true, true, true, true, true, false, false, false, false, false, false, false, false, false, false, false, false, false, false, false, false, false] rfl rfl (one_of HT_.out (by kernel_rfl)) (by decide) (fun K hK => ?_)
             refine goes_ Try.func25 (by kernel_rfl) rfl #[.agg #[.int .i64 t251, .int .i64 t252, .int .i64 t253, .int .i64 t254], .agg #[.int .i64 t259, .int .i64 t260]] (by rfl) rfl rfl (by (try simp only [List.map_toArray, List.map_cons, List.map_nil]); first | done | rfl | (simp only [List.length_drop, List.length_take]; rfl)) ?_
             with_reducible refine (spec_InBox.calls t251 t252 t253 t254 t259 t260 true _ A61.out).mono ?_
             rintro e w77 ⟨rfl, hb⟩
             refine ⟨_, rfl, ?_⟩
             have n0_ := Aside0.mk (blk_below (g := gb233) (o := .cells #[.int .i64 ((rd_T34 t229 0).f0), .int .i64 ((rd_T34 t229 0).f1)] 34 (0, 0)) (by (with_reducible repeat (first | refine blk_drewN ?_ _ | refine blk_drew ?_ | refine blk_alloc ?_ _)); exact BK233.out) hb)
             have n1_ := Aside0.mk (blk_below (g := gb235) (o := .cells #[.int .i64 ((rd_T34 t229 1).f0), .int .i64 ((rd_T34 t229 1).f1)] 34 (0, 0)) (by (with_reducible repeat (first | refine blk_drewN ?_ _ | refine blk_drew ?_ | refine blk_alloc ?_ _)); exact BK235.out) hb)
             have n2_ := Aside0.mk (blk_below (g := gb237) (o := .cells #[.int .i64 ((rd_T34 t229 2).f0), .int .i64 ((rd_T34 t229 2).f1)] 34 (0, 0)) (by (with_reducible repeat (first | refine blk_drewN ?_ _ | refine blk_drew ?_ | refine blk_alloc ?_ _)); exact BK237.out) hb)
             have n3_ := Aside0.mk (blk_below (g := gb239) (o := .cells #[.int .i64 ((rd_T34 t229 3).f0), .int .i64 ((rd_T34 t229 3).f1)] 34 (0, 0)) (by (with_reducible repeat (first | refine blk_drewN ?_ _ | refine blk_drew ?_ | refine blk_alloc ?_ _)); exact BK239.out) hb)
             have n4_ := Aside0.mk (blk_below (g := gb247) (o := .cells #[.int .i64 t243, .int .i64 t244, .int .i64 t245, .int .i64 t246] 26 (0, 0)) (by (with_reducible repeat (first | refine blk_drewN ?_ _ | refine blk_drew ?_ | refine blk_alloc ?_ _)); exact BK247.out) hb)
             have n5_ := Aside0.mk (blk_below (g := gb255) (o := .cells #[.int .i64 t251, .int .i64 t252, .int .i64 t253, .int .i64 t254] 26 (0, 0)) (by (with_reducible repeat (first | refine blk_drewN ?_ _ | refine blk_drew ?_ | refine blk_alloc ?_ _)); exact BK255.out) hb)
             have n6_ := Aside0.mk (below_step (by repeat (first | (with_reducible first | exact HB.out | apply below_alloc | apply pw_below_drewN | apply below_drew1 | refine below_set ?_ GE233.out | refine below_set ?_ GE235.out | refine below_set ?_ GE237.out | refine below_set ?_ GE239.out | refine below_set ?_ GE247.out | refine below_set ?_ GE255.out) | exact HB.out)) hb)
             clear BK233
             clear BK235
             clear BK237
             clear BK239
             clear BK247
             clear BK255
             clear HB
             have BK233 := n0_
             have BK235 := n1_
             have BK237 := n2_
             have BK239 := n3_
             have BK247 := n4_
             have BK255 := n5_
             have HB := n6_
             clear n0_ n1_ n2_ n3_ n4_ n5_ n6_
             (try clear hb)
             (try clear hb2)
             (try clear hk)
             (try clear hi)
             refine hK.out _ _ ⟨(blk_cell BK247.out 0).trans rfl, (blk_cell BK247.out 1).trans rfl, (blk_cell BK247.out 2).trans rfl, (blk_cell BK247.out 3).trans rfl, (blk_cell BK233.out 0).trans rfl, (blk_cell BK233.out 1).trans rfl, (blk_cell BK235.out 0).trans rfl, (blk_cell BK235.out 1).trans rfl, (blk_cell BK237.out 0).trans rfl, (blk_cell BK237.out 1).trans rfl, (blk_cell BK255.out 0).trans rfl, (blk_cell BK255.out 1).trans rfl, (blk_cell BK255.out 2).trans rfl, (blk_cell BK255.out 3).trans rfl, (blk_cell BK239.out 0).trans rfl, (blk_cell BK239.out 1).trans rfl⟩ (fun hHeld => ?_)
             clear hK K
             refine norm_ (a' := ?_) ?_ ?_
             rotate_left
             ·show Act.put _ (some 62) _ = _
              simp only [Act.put, List.setIfInBounds_toArray, List.set_cons_zero, List.set_cons_succ, i64_w, i32_w]
              rfl
             refine pure_ (i := 21) (N := some 63) (v := ?_) (a' := ?_) #[true, true, true, true, true, true, true, true, true, true, true, true, true, true, true, true, true, true, true, true, true, true, false, false, false, false, false, false, false, false, false, false, false, false, false, false, false, false] rfl rfl (any_of HT_.out (by kernel_rfl)) (fun _ _ _ h => h) (Or.inl ⟨by rfl, ?_⟩) ?_ ?_
             rotate_left
             ·intro w'
              go_simp
              with_reducible rfl
             rotate_left
             ·simp only [Act.put, List.setIfInBounds_toArray, List.set_cons_zero, List.set_cons_succ, i64_w, i32_w]
              rfl
             refine pure_ (i := 22) (N := some 64) (v := ?_) (a' := ?_) #[true, true, true, true, true, true, true, true, true, true, true, true, true, true, true, true, true, true, true, true, true, true, true, false, false, false, false, false, false, false, false, false, false, false, false, false, false, false] rfl rfl (any_of HT_.out (by kernel_rfl)) (fun _ _ _ h => h) (Or.inl ⟨by rfl, ?_⟩) ?_ ?_
             rotate_left
             ·intro w'
              go_simp
              with_reducible rfl
             rotate_left
             ·simp only [Act.put, List.setIfInBounds_toArray, List.set_cons_zero, List.set_cons_succ, i64_w, i32_w]
              rfl
             refine pure_ (i := 23) (N := some 65) (v := ?_) (a' := ?_) #[true, true, true, true, true, true, true, true, true, true, true, true, true, true, true, true, true, true, true, true, true, true, true, true, false, false, false, false, false, false, false, false, false, false, false, false, false, false] rfl rfl (any_of HT_.out (by kernel_rfl)) (fun _ _ _ h => h) (Or.inl ⟨by rfl, ?_⟩) ?_ ?_
             rotate_left
             ·intro w'
              go_simp
              with_reducible rfl
             rotate_left
             ·simp only [Act.put, List.setIfInBounds_toArray, List.set_cons_zero, List.set_cons_succ, i64_w, i32_w]
              rfl
             refine pure_ (i := 28) (N := some 70) (v := ?_) (a' := ?_) #[true, true, true, true, true, true, true, true, true, true, true, true, true, true, true, true, true, true, true, true, true, true, true, true, false, false, false, false, true, false, false, false, false, false, false, false, false, false] rfl rfl (any_of HT_.out (by kernel_rfl)) (fun _ _ _ h => h) (Or.inl ⟨by rfl, ?_⟩) ?_ ?_
             rotate_left
             ·intro w'
              go_simp
              with_reducible rfl
             rotate_left
             ·simp only [Act.put, List.setIfInBounds_toArray, List.set_cons_zero, List.set_cons_succ, i64_w, i32_w]
              rfl
             refine pure_ (i := 34) (N := some 76) (v := ?_) (a' := ?_) #[true, true, true, true, true, true, true, true, true, true, true, true, true, true, true, true, true, true, true, true, true, true, true, true, false, false, false, false, true, false, false, false, false, false, true, false, false, false] rfl rfl (any_of HT_.out (by kernel_rfl)) (fun _ _ _ h => h) (Or.inl ⟨by rfl, ?_⟩) ?_ ?_
             rotate_left
             ·intro w'
              go_simp
              with_reducible rfl
             rotate_left
             ·simp only [Act.put, List.setIfInBounds_toArray, List.set_cons_zero, List.set_cons_succ, i64_w, i32_w]
              rfl
             refine take_ (i := 24) (N := some 66) (v := ?_) (a' := ?_) #[true, true, true, true, true, true, true, true, true, true, true, true, true, true, true, true, true, true, true, true, true, true, true, true, true, false, false, false, true, false, false, false, false, false, true, false, false, false] rfl rfl (take_ofW HT_.out HW_.out (by kernel_rfl)) (fun _ _ _ h => h) (Or.inl ⟨by rfl, ?_⟩) hHeld ?_ ?_
             rotate_left
             ·rintro w' ⟨s0, s1, s2, s3, s4, s5, s6, s7, s8, s9, s10, s11, s12, s13, s14, s15⟩
              go_simp
              with_reducible rfl
             rotate_left
             ·simp only [Act.put, List.setIfInBounds_toArray, List.set_cons_zero, List.set_cons_succ, i64_w, i32_w]
              rfl
             refine take_ (i := 25) (N := some 67) (v := ?_) (a' := ?_) #[true, true, true, true, true, true, true, true, true, true, true, true, true, true, true, true, true, true, true, true, true, true, true, true, true, true, false, false, true, false, false, false, false, false, true, false, false, false] rfl rfl (take_ofW HT_.out HW_.out (by kernel_rfl)) (fun _ _ _ h => h) (Or.inl ⟨by rfl, ?_⟩) hHeld ?_ ?_
             rotate_left
             ·rintro w' ⟨s0, s1, s2, s3, s4, s5, s6, s7, s8, s9, s10, s11, s12, s13, s14, s15⟩
              go_simp
              with_reducible rfl
             rotate_left
             ·simp only [Act.put, List.setIfInBounds_toArray, List.set_cons_zero, List.set_cons_succ, i64_w, i32_w]
              rfl
             refine take_ (i := 26) (N := some 68) (v := ?_) (a' := ?_) #[true, true, true, true, true, true, true, true, true, true, true, true, true, true, true, true, true, true, true, true, true, true, true, true, true, true, true, false, true, false, false, false, false, false, true, false, false, false] rfl rfl (take_ofW HT_.out HW_.out (by kernel_rfl)) (fun _ _ _ h => h) (Or.inl ⟨by rfl, ?_⟩) hHeld ?_ ?_
             rotate_left
             ·rintro w' ⟨s0, s1, s2, s3, s4, s5, s6, s7, s8, s9, s10, s11, s12, s13, s14, s15⟩
              go_simp
              with_reducible rfl
             rotate_left
             ·simp only [Act.put, List.setIfInBounds_toArray, List.set_cons_zero, List.set_cons_succ, i64_w, i32_w]
              rfl
             refine take_ (i := 27) (N := some 69) (v := ?_) (a' := ?_) #[true, true, true, true, true, true, true, true, true, true, true, true, true, true, true, true, true, true, true, true, true, true, true, true, true, true, true, true, true, false, false, false, false, false, true, false, false, false] rfl rfl (take_ofW HT_.out HW_.out (by kernel_rfl)) (fun _ _ _ h => h) (Or.inl ⟨by rfl, ?_⟩) hHeld ?_ ?_
             rotate_left
             ·rintro w' ⟨s0, s1, s2, s3, s4, s5, s6, s7, s8, s9, s10, s11, s12, s13, s14, s15⟩
              go_simp
              with_reducible rfl
             rotate_left
             ·simp only [Act.put, List.setIfInBounds_toArray, List.set_cons_zero, List.set_cons_succ, i64_w, i32_w]
              rfl
             refine take_ (i := 30) (N := some 72) (v := ?_) (a' := ?_) #[true, true, true, true, true, true, true, true, true, true, true, true, true, true, true, true, true, true, true, true, true, true, true, true, true, true, true, true, true, false, true, false, false, false, true, false, false, false] rfl rfl (take_ofW HT_.out HW_.out (by kernel_rfl)) (fun _ _ _ h => h) (Or.inl ⟨by rfl, ?_⟩) hHeld ?_ ?_
             rotate_left
             ·rintro w' ⟨s0, s1, s2, s3, s4, s5, s6, s7, s8, s9, s10, s11, s12, s13, s14, s15⟩
              go_simp
              with_reducible rfl
             rotate_left
             ·simp only [Act.put, List.setIfInBounds_toArray, List.set_cons_zero, List.set_cons_succ, i64_w, i32_w]
              rfl
             refine take_ (i := 31) (N := some 73) (v := ?_) (a' := ?_) #[true, true, true, true, true, true, true, true, true, true, true, true, true, true, true, true, true, true, true, true, true, true, true, true, true, true, true, true, true, false, true, true, false, false, true, false, false, false] rfl rfl (take_ofW HT_.out HW_.out (by kernel_rfl)) (fun _ _ _ h => h) (Or.inl ⟨by rfl, ?_⟩) hHeld ?_ ?_
             rotate_left
             ·rintro w' ⟨s0, s1, s2, s3, s4, s5, s6, s7, s8, s9, s10, s11, s12, s13, s14, s15⟩
              go_simp
              with_reducible rfl
             rotate_left
             ·simp only [Act.put, List.setIfInBounds_toArray, List.set_cons_zero, List.set_cons_succ, i64_w, i32_w]
              rfl
             refine take_ (i := 32) (N := some 74) (v := ?_) (a' := ?_) #[true, true, true, true, true, true, true, true, true, true, true, true, true, true, true, true, true, true, true, true, true, true, true, true, true, true, true, true, true, false, true, true, true, false, true, false, false, false] rfl rfl (take_ofW HT_.out HW_.out (by kernel_rfl)) (fun _ _ _ h => h) (Or.inl ⟨by rfl, ?_⟩) hHeld ?_ ?_
             rotate_left
             ·rintro w' ⟨s0, s1, s2, s3, s4, s5, s6, s7, s8, s9, s10, s11, s12, s13, s14, s15⟩
              go_simp
              with_reducible rfl
             rotate_left
             ·simp only [Act.put, List.setIfInBounds_toArray, List.set_cons_zero, List.set_cons_succ, i64_w, i32_w]
              rfl
             refine take_ (i := 33) (N := some 75) (v := ?_) (a' := ?_) #[true, true, true, true, true, true, true, true, true, true, true, true, true, true, true, true, true, true, true, true, true, true, true, true, true, true, true, true, true, false, true, true, true, true, true, false, false, false] rfl rfl (take_ofW HT_.out HW_.out (by kernel_rfl)) (fun _ _ _ h => h) (Or.inl ⟨by rfl, ?_⟩) hHeld ?_ ?_
             rotate_left
             ·rintro w' ⟨s0, s1, s2, s3, s4, s5, s6, s7, s8, s9, s10, s11, s12, s13, s14, s15⟩
              go_simp
              with_reducible rfl
             rotate_left
             ·simp only [Act.put, List.setIfInBounds_toArray, List.set_cons_zero, List.set_cons_succ, i64_w, i32_w]
              rfl
             refine one_ (i := 29) (N := some 71) #[true, true, true, true, true, true, true, true, true, true, true, true, true, true, true, true, true, true, true, true, true, true, true, true, true, true, true, true, true, true, true, true, true, true, true, false, false, false] rfl rfl (one_of HT_.out (by kernel_rfl)) (by decide) (fun K hK => ?_)
             refine goes_ Try.func31 (by kernel_rfl) rfl #[.agg #[.int .i64 ((rd_T34 t229 0).f0), .int .i64 ((rd_T34 t229 0).f1)], .agg #[.int .i64 ((rd_T34 t229 1).f0), .int .i64 ((rd_T34 t229 1).f1)], .agg #[.int .i64 ((rd_T34 t229 2).f0), .int .i64 ((rd_T34 t229 2).f1)], .agg #[.int .i64 ((rd_T34 t229 3).f0), .int .i64 ((rd_T34 t229 3).f1)], .int .i64 x10_1] (by rfl) rfl rfl (by (try simp only [List.map_toArray, List.map_cons, List.map_nil]); first | done | rfl | (simp only [List.length_drop, List.length_take]; rfl)) ?_
             with_reducible refine (impl_CubicAt.calls k1 ((rd_T34 t229 0).f0) ((rd_T34 t229 0).f1) ((rd_T34 t229 1).f0) ((rd_T34 t229 1).f1) ((rd_T34 t229 2).f0) ((rd_T34 t229 2).f1) ((rd_T34 t229 3).f0) ((rd_T34 t229 3).f1) x10_1 t262 t263 _ A63.out).mono ?_
             rintro e w78 ⟨rfl, hb⟩
             refine ⟨_, rfl, ?_⟩
             have n0_ := Aside0.mk (blk_below (g := gb233) (o := .cells #[.int .i64 ((rd_T34 t229 0).f0), .int .i64 ((rd_T34 t229 0).f1)] 34 (0, 0)) (by (with_reducible repeat (first | refine blk_drewN ?_ _ | refine blk_drew ?_ | refine blk_alloc ?_ _)); exact BK233.out) hb)
             have n1_ := Aside0.mk (blk_below (g := gb235) (o := .cells #[.int .i64 ((rd_T34 t229 1).f0), .int .i64 ((rd_T34 t229 1).f1)] 34 (0, 0)) (by (with_reducible repeat (first | refine blk_drewN ?_ _ | refine blk_drew ?_ | refine blk_alloc ?_ _)); exact BK235.out) hb)
             have n2_ := Aside0.mk (blk_below (g := gb237) (o := .cells #[.int .i64 ((rd_T34 t229 2).f0), .int .i64 ((rd_T34 t229 2).f1)] 34 (0, 0)) (by (with_reducible repeat (first | refine blk_drewN ?_ _ | refine blk_drew ?_ | refine blk_alloc ?_ _)); exact BK237.out) hb)
             have n3_ := Aside0.mk (blk_below (g := gb239) (o := .cells #[.int .i64 ((rd_T34 t229 3).f0), .int .i64 ((rd_T34 t229 3).f1)] 34 (0, 0)) (by (with_reducible repeat (first | refine blk_drewN ?_ _ | refine blk_drew ?_ | refine blk_alloc ?_ _)); exact BK239.out) hb)
             have n4_ := Aside0.mk (blk_below (g := gb247) (o := .cells #[.int .i64 t243, .int .i64 t244, .int .i64 t245, .int .i64 t246] 26 (0, 0)) (by (with_reducible repeat (first | refine blk_drewN ?_ _ | refine blk_drew ?_ | refine blk_alloc ?_ _)); exact BK247.out) hb)
             have n5_ := Aside0.mk (blk_below (g := gb255) (o := .cells #[.int .i64 t251, .int .i64 t252, .int .i64 t253, .int .i64 t254] 26 (0, 0)) (by (with_reducible repeat (first | refine blk_drewN ?_ _ | refine blk_drew ?_ | refine blk_alloc ?_ _)); exact BK255.out) hb)
             have n6_ := Aside0.mk (below_step (by repeat (first | (with_reducible first | exact HB.out | apply below_alloc | apply pw_below_drewN | apply below_drew1 | refine below_set ?_ GE233.out | refine below_set ?_ GE235.out | refine below_set ?_ GE237.out | refine below_set ?_ GE239.out | refine below_set ?_ GE247.out | refine below_set ?_ GE255.out) | exact HB.out)) hb)
             clear BK233
             clear BK235
             clear BK237
             clear BK239
             clear BK247
             clear BK255
             clear HB
             have BK233 := n0_
             have BK235 := n1_
             have BK237 := n2_
             have BK239 := n3_
             have BK247 := n4_
             have BK255 := n5_
             have HB := n6_
             clear n0_ n1_ n2_ n3_ n4_ n5_ n6_
             (try clear hb)
             (try clear hb2)
             (try clear hk)
             (try clear hi)
             refine hK.out _ _ ⟨(blk_cell BK247.out 0).trans rfl, (blk_cell BK247.out 1).trans rfl, (blk_cell BK247.out 2).trans rfl, (blk_cell BK247.out 3).trans rfl, (blk_cell BK233.out 0).trans rfl, (blk_cell BK233.out 1).trans rfl, (blk_cell BK235.out 0).trans rfl, (blk_cell BK235.out 1).trans rfl, (blk_cell BK237.out 0).trans rfl, (blk_cell BK237.out 1).trans rfl, (blk_cell BK255.out 0).trans rfl, (blk_cell BK255.out 1).trans rfl, (blk_cell BK255.out 2).trans rfl, (blk_cell BK255.out 3).trans rfl, (blk_cell BK239.out 0).trans rfl, (blk_cell BK239.out 1).trans rfl⟩ (fun hHeld => ?_)
             clear hK K
             refine norm_ (a' := ?_) ?_ ?_
             rotate_left
             ·show Act.put _ (some 71) _ = _
              simp only [Act.put, List.setIfInBounds_toArray, List.set_cons_zero, List.set_cons_succ, i64_w, i32_w]
              rfl
             refine one_ (i := 35) (N := some 77) #[true, true, true, true, true, true, true, true, true, true, true, true, true, true, true, true, true, true, true, true, true, true, true, true, true, true, true, true, true, true, true, true, true, true, true, true, false, false] rfl rfl (one_of HT_.out (by kernel_rfl)) (by decide) (fun K hK => ?_)
             refine goes_ Try.func32 (by kernel_rfl) rfl #[.agg #[.int .i64 ((rd_T34 t229 0).f0), .int .i64 ((rd_T34 t229 0).f1)], .agg #[.int .i64 ((rd_T34 t229 1).f0), .int .i64 ((rd_T34 t229 1).f1)], .agg #[.int .i64 ((rd_T34 t229 2).f0), .int .i64 ((rd_T34 t229 2).f1)], .agg #[.int .i64 ((rd_T34 t229 3).f0), .int .i64 ((rd_T34 t229 3).f1)], .int .i64 x10_1] (by rfl) rfl rfl (by (try simp only [List.map_toArray, List.map_cons, List.map_nil]); first | done | rfl | (simp only [List.length_drop, List.length_take]; rfl)) ?_
             with_reducible refine (spec_CubicAt.calls k1 ((rd_T34 t229 0).f0) ((rd_T34 t229 0).f1) ((rd_T34 t229 1).f0) ((rd_T34 t229 1).f1) ((rd_T34 t229 2).f0) ((rd_T34 t229 2).f1) ((rd_T34 t229 3).f0) ((rd_T34 t229 3).f1) x10_1 t264 t265 _ A64.out).mono ?_
             rintro e w79 ⟨rfl, hb⟩
             refine ⟨_, rfl, ?_⟩
             have n0_ := Aside0.mk (blk_below (g := gb233) (o := .cells #[.int .i64 ((rd_T34 t229 0).f0), .int .i64 ((rd_T34 t229 0).f1)] 34 (0, 0)) (by (with_reducible repeat (first | refine blk_drewN ?_ _ | refine blk_drew ?_ | refine blk_alloc ?_ _)); exact BK233.out) hb)
             have n1_ := Aside0.mk (blk_below (g := gb235) (o := .cells #[.int .i64 ((rd_T34 t229 1).f0), .int .i64 ((rd_T34 t229 1).f1)] 34 (0, 0)) (by (with_reducible repeat (first | refine blk_drewN ?_ _ | refine blk_drew ?_ | refine blk_alloc ?_ _)); exact BK235.out) hb)
             have n2_ := Aside0.mk (blk_below (g := gb237) (o := .cells #[.int .i64 ((rd_T34 t229 2).f0), .int .i64 ((rd_T34 t229 2).f1)] 34 (0, 0)) (by (with_reducible repeat (first | refine blk_drewN ?_ _ | refine blk_drew ?_ | refine blk_alloc ?_ _)); exact BK237.out) hb)
             have n3_ := Aside0.mk (blk_below (g := gb239) (o := .cells #[.int .i64 ((rd_T34 t229 3).f0), .int .i64 ((rd_T34 t229 3).f1)] 34 (0, 0)) (by (with_reducible repeat (first | refine blk_drewN ?_ _ | refine blk_drew ?_ | refine blk_alloc ?_ _)); exact BK239.out) hb)
             have n4_ := Aside0.mk (blk_below (g := gb247) (o := .cells #[.int .i64 t243, .int .i64 t244, .int .i64 t245, .int .i64 t246] 26 (0, 0)) (by (with_reducible repeat (first | refine blk_drewN ?_ _ | refine blk_drew ?_ | refine blk_alloc ?_ _)); exact BK247.out) hb)
             have n5_ := Aside0.mk (blk_below (g := gb255) (o := .cells #[.int .i64 t251, .int .i64 t252, .int .i64 t253, .int .i64 t254] 26 (0, 0)) (by (with_reducible repeat (first | refine blk_drewN ?_ _ | refine blk_drew ?_ | refine blk_alloc ?_ _)); exact BK255.out) hb)
             have n6_ := Aside0.mk (below_step (by repeat (first | (with_reducible first | exact HB.out | apply below_alloc | apply pw_below_drewN | apply below_drew1 | refine below_set ?_ GE233.out | refine below_set ?_ GE235.out | refine below_set ?_ GE237.out | refine below_set ?_ GE239.out | refine below_set ?_ GE247.out | refine below_set ?_ GE255.out) | exact HB.out)) hb)
             clear BK233
             clear BK235
             clear BK237
             clear BK239
             clear BK247
             clear BK255
             clear HB
             have BK233 := n0_
             have BK235 := n1_
             have BK237 := n2_
             have BK239 := n3_
             have BK247 := n4_
             have BK255 := n5_
             have HB := n6_
             clear n0_ n1_ n2_ n3_ n4_ n5_ n6_
             (try clear hb)
             (try clear hb2)
             (try clear hk)
             (try clear hi)
             refine hK.out _ _ ⟨(blk_cell BK247.out 0).trans rfl, (blk_cell BK247.out 1).trans rfl, (blk_cell BK247.out 2).trans rfl, (blk_cell BK247.out 3).trans rfl, (blk_cell BK233.out 0).trans rfl, (blk_cell BK233.out 1).trans rfl, (blk_cell BK235.out 0).trans rfl, (blk_cell BK235.out 1).trans rfl, (blk_cell BK237.out 0).trans rfl, (blk_cell BK237.out 1).trans rfl, (blk_cell BK255.out 0).trans rfl, (blk_cell BK255.out 1).trans rfl, (blk_cell BK255.out 2).trans rfl, (blk_cell BK255.out 3).trans rfl, (blk_cell BK239.out 0).trans rfl, (blk_cell BK239.out 1).trans rfl⟩ (fun hHeld => ?_)
             clear hK K
             refine norm_ (a' := ?_) ?_ ?_
             rotate_left
             ·show Act.put _ (some 77) _ = _
              simp only [Act.put, List.setIfInBounds_toArray, List.set_cons_zero, List.set_cons_succ, i64_w, i32_w]
              rfl
             refine pure_ (i := 36) (N := some 78) (v := ?_) (a' := ?_) #[true, true, true, true, true, true, true, true, true, true, true, true, true, true, true, true, true, true, true, true, true, true, true, true, true, true, true, true, true, true, true, true, true, true, true, true, true, false] rfl rfl (any_of HT_.out (by kernel_rfl)) (fun _ _ _ h => h) (Or.inl ⟨by rfl, ?_⟩) ?_ ?_
             rotate_left
             ·intro w'
              go_simp
              with_reducible rfl
             rotate_left
             ·simp only [Act.put, List.setIfInBounds_toArray, List.set_cons_zero, List.set_cons_succ, i64_w, i32_w]
              rfl
             refine pure_ (i := 37) (N := some 79) (v := ?_) (a' := ?_) #[true, true, true, true, true, true, true, true, true, true, true, true, true, true, true, true, true, true, true, true, true, true, true, true, true, true, true, true, true, true, true, true, true, true, true, true, true, true] rfl rfl (any_of HT_.out (by kernel_rfl)) (fun _ _ _ h => h) (Or.inl ⟨by rfl, ?_⟩) ?_ ?_
             rotate_left
             ·intro w'
              go_simp
              with_reducible rfl
             rotate_left
             ·simp only [Act.put, List.setIfInBounds_toArray, List.set_cons_zero, List.set_cons_succ, i64_w, i32_w]
              rfl
             refine done_ (done_of HT_.out (by kernel_rfl)) ?_
             try go_wp2
             go_roundg k1
             case measure => have := HK1.out; omega
             case rel => exact ⟨(wrap64 (x10_1 + 1)), (by first | rfl | (simp; done) | (simp [*]; done)), H', ⟨by have := HK1.out; omega⟩, ⟨by (with_reducible repeat (first | refine blk_drewN ?_ _ | refine blk_drew ?_ | refine blk_alloc ?_ _)); exact BK233.out⟩, ⟨by (with_reducible repeat (first | refine blk_drewN ?_ _ | refine blk_drew ?_ | refine blk_alloc ?_ _)); exact BK235.out⟩, ⟨by (with_reducible repeat (first | refine blk_drewN ?_ _ | refine blk_drew ?_ | refine blk_alloc ?_ _)); exact BK237.out⟩, ⟨by (with_reducible repeat (first | refine blk_drewN ?_ _ | refine blk_drew ?_ | refine blk_alloc ?_ _)); exact BK239.out⟩, ⟨by (with_reducible repeat (first | refine blk_drewN ?_ _ | refine blk_drew ?_ | refine blk_alloc ?_ _)); exact BK247.out⟩, ⟨by (with_reducible repeat (first | refine blk_drewN ?_ _ | refine blk_drew ?_ | refine blk_alloc ?_ _)); exact BK255.out⟩, ⟨by repeat (first | (with_reducible first | exact HB.out | apply below_alloc | apply pw_below_drewN | apply below_drew1 | refine below_set ?_ GE233.out | refine below_set ?_ GE235.out | refine below_set ?_ GE237.out | refine below_set ?_ GE239.out | refine below_set ?_ GE247.out | refine below_set ?_ GE255.out) | exact HB.out)⟩⟩
           ·replace c62 := Bool.eq_false_iff.mpr c62
            subst c62
            have H1 : (some false) = some r := by rw [if_neg (show ¬ (false = true) by decide)] at H; exact H
            clear H
            have H := H1
            clear H1
            obtain rfl := Option.some.inj H
            exact absurd hr_ (by decide)
          ·replace c59 := Bool.eq_false_iff.mpr c59
           subst c59
           have H1 : (some false) = some r := by rw [if_neg (show ¬ (false = true) by decide)] at H; exact H
           clear H
           have H := H1
           clear H1
           obtain rfl := Option.some.inj H
           exact absurd hr_ (by decide)
         ·rw [if_neg c56] at H
          have c56b0 : decide (x10_1 ≤ 4) = false := decide_eq_false c56
          clear c56
          replace H := Option.bind_eq_some_iff.mp H
          obtain ⟨⟨t266, t267⟩, A880, H⟩ := H
          replace H : ((spec_InBox.f t251 t252 t253 t254 t266 t267).bind fun t268 => (if t268 = true then ((impl_CubicAt.f k1 ((rd_T34 t229 0).f0) ((rd_T34 t229 0).f1) ((rd_T34 t229 1).f0) ((rd_T34 t229 1).f1) ((rd_T34 t229 2).f0) ((rd_T34 t229 2).f1) ((rd_T34 t229 3).f0) ((rd_T34 t229 3).f1) x10_1).bind fun bt269 => ((spec_CubicAt.f k1 ((rd_T34 t229 0).f0) ((rd_T34 t229 0).f1) ((rd_T34 t229 1).f0) ((rd_T34 t229 1).f1) ((rd_T34 t229 2).f0) ((rd_T34 t229 2).f1) ((rd_T34 t229 3).f0) ((rd_T34 t229 3).f1) x10_1).bind fun bt271 => (if (!(bt269.1 == bt271.1) || (!(bt269.2 == bt271.2))) = true then (some false) else (laws_FnCurves.l0 k1 (wrap64 (x10_1 + 1)) ((rd_T34 t229 0).f0) ((rd_T34 t229 0).f1) ((rd_T34 t229 1).f0) ((rd_T34 t229 1).f1) ((rd_T34 t229 2).f0) ((rd_T34 t229 2).f1) ((rd_T34 t229 3).f0) ((rd_T34 t229 3).f1) t243 t244 t245 t246 t251 t252 t253 t254)))) else (some false))) = some r := H
          have A88 := Aside0.mk A880
          clear A880
          replace H := Option.bind_eq_some_iff.mp H
          obtain ⟨t268, A890, H⟩ := H
          replace H : (if t268 = true then ((impl_CubicAt.f k1 ((rd_T34 t229 0).f0) ((rd_T34 t229 0).f1) ((rd_T34 t229 1).f0) ((rd_T34 t229 1).f1) ((rd_T34 t229 2).f0) ((rd_T34 t229 2).f1) ((rd_T34 t229 3).f0) ((rd_T34 t229 3).f1) x10_1).bind fun bt269 => ((spec_CubicAt.f k1 ((rd_T34 t229 0).f0) ((rd_T34 t229 0).f1) ((rd_T34 t229 1).f0) ((rd_T34 t229 1).f1) ((rd_T34 t229 2).f0) ((rd_T34 t229 2).f1) ((rd_T34 t229 3).f0) ((rd_T34 t229 3).f1) x10_1).bind fun bt271 => (if (!(bt269.1 == bt271.1) || (!(bt269.2 == bt271.2))) = true then (some false) else (laws_FnCurves.l0 k1 (wrap64 (x10_1 + 1)) ((rd_T34 t229 0).f0) ((rd_T34 t229 0).f1) ((rd_T34 t229 1).f0) ((rd_T34 t229 1).f1) ((rd_T34 t229 2).f0) ((rd_T34 t229 2).f1) ((rd_T34 t229 3).f0) ((rd_T34 t229 3).f1) t243 t244 t245 t246 t251 t252 t253 t254)))) else (some false)) = some r := H
          have A89 := Aside0.mk A890
          clear A890
          by_cases c90 : t268 = true
          ·subst c90
           have H1 : ((impl_CubicAt.f k1 ((rd_T34 t229 0).f0) ((rd_T34 t229 0).f1) ((rd_T34 t229 1).f0) ((rd_T34 t229 1).f1) ((rd_T34 t229 2).f0) ((rd_T34 t229 2).f1) ((rd_T34 t229 3).f0) ((rd_T34 t229 3).f1) x10_1).bind fun bt269 => ((spec_CubicAt.f k1 ((rd_T34 t229 0).f0) ((rd_T34 t229 0).f1) ((rd_T34 t229 1).f0) ((rd_T34 t229 1).f1) ((rd_T34 t229 2).f0) ((rd_T34 t229 2).f1) ((rd_T34 t229 3).f0) ((rd_T34 t229 3).f1) x10_1).bind fun bt271 => (if (!(bt269.1 == bt271.1) || (!(bt269.2 == bt271.2))) = true then (some false) else (laws_FnCurves.l0 k1 (wrap64 (x10_1 + 1)) ((rd_T34 t229 0).f0) ((rd_T34 t229 0).f1) ((rd_T34 t229 1).f0) ((rd_T34 t229 1).f1) ((rd_T34 t229 2).f0) ((rd_T34 t229 2).f1) ((rd_T34 t229 3).f0) ((rd_T34 t229 3).f1) t243 t244 t245 t246 t251 t252 t253 t254)))) = some r := by rw [if_pos rfl] at H; exact H
           clear H
           have H := H1
           clear H1
           replace H := Option.bind_eq_some_iff.mp H
           obtain ⟨⟨t269, t270⟩, A910, H⟩ := H
           replace H : ((spec_CubicAt.f k1 ((rd_T34 t229 0).f0) ((rd_T34 t229 0).f1) ((rd_T34 t229 1).f0) ((rd_T34 t229 1).f1) ((rd_T34 t229 2).f0) ((rd_T34 t229 2).f1) ((rd_T34 t229 3).f0) ((rd_T34 t229 3).f1) x10_1).bind fun bt271 => (if (!(t269 == bt271.1) || (!(t270 == bt271.2))) = true then (some false) else (laws_FnCurves.l0 k1 (wrap64 (x10_1 + 1)) ((rd_T34 t229 0).f0) ((rd_T34 t229 0).f1) ((rd_T34 t229 1).f0) ((rd_T34 t229 1).f1) ((rd_T34 t229 2).f0) ((rd_T34 t229 2).f1) ((rd_T34 t229 3).f0) ((rd_T34 t229 3).f1) t243 t244 t245 t246 t251 t252 t253 t254))) = some r := H
           have A91 := Aside0.mk A910
           clear A910
           replace H := Option.bind_eq_some_iff.mp H
           obtain ⟨⟨t271, t272⟩, A920, H⟩ := H
           replace H : (if (!(t269 == t271) || (!(t270 == t272))) = true then (some false) else (laws_FnCurves.l0 k1 (wrap64 (x10_1 + 1)) ((rd_T34 t229 0).f0) ((rd_T34 t229 0).f1) ((rd_T34 t229 1).f0) ((rd_T34 t229 1).f1) ((rd_T34 t229 2).f0) ((rd_T34 t229 2).f1) ((rd_T34 t229 3).f0) ((rd_T34 t229 3).f1) t243 t244 t245 t246 t251 t252 t253 t254)) = some r := H
           have A92 := Aside0.mk A920
           clear A920
           by_cases c93 : (!(t269 == t271) || (!(t270 == t272))) = true
           ·rw [if_pos c93] at H
            have c93b0 : (!(t269 == t271) || (!(t270 == t272))) = true := c93
            clear c93
            obtain rfl := Option.some.inj H
            exact absurd hr_ (by decide)
           ·rw [if_neg c93] at H
            have c93b0 : (!(t269 == t271) || (!(t270 == t272))) = false := by simpa using c93
            clear c93
            have H' := Aside0.mk H
            clear H
            try go_wp2
            have n0_ := Aside0.mk (blk_drew BK233.out)
            have n1_ := Aside0.mk (blk_drew BK235.out)
            have n2_ := Aside0.mk (blk_drew BK237.out)
            have n3_ := Aside0.mk (blk_drew BK239.out)
            have n4_ := Aside0.mk (blk_drew BK247.out)
            have n5_ := Aside0.mk (blk_drew BK255.out)
            have n6_ := Aside0.mk (below_drew1 HB.out)
            clear BK233
            clear BK235
            clear BK237
            clear BK239
            clear BK247
            clear BK255
            clear HB
            have BK233 := n0_
            have BK235 := n1_
            have BK237 := n2_
            have BK239 := n3_
            have BK247 := n4_
            have BK255 := n5_
            have HB := n6_
            clear n0_ n1_ n2_ n3_ n4_ n5_ n6_
            refine start_ (n := 38) (S := fun w' => w'.cell? ⟨gb255, 0, none⟩ = some (.int .i64 t251) ∧ w'.cell? ⟨gb255, 1, none⟩ = some (.int .i64 t252) ∧ w'.cell? ⟨gb255, 2, none⟩ = some (.int .i64 t253) ∧ w'.cell? ⟨gb255, 3, none⟩ = some (.int .i64 t254) ∧ w'.cell? ⟨gb233, 0, none⟩ = some (.int .i64 ((rd_T34 t229 0).f0)) ∧ w'.cell? ⟨gb233, 1, none⟩ = some (.int .i64 ((rd_T34 t229 0).f1)) ∧ w'.cell? ⟨gb235, 0, none⟩ = some (.int .i64 ((rd_T34 t229 1).f0)) ∧ w'.cell? ⟨gb235, 1, none⟩ = some (.int .i64 ((rd_T34 t229 1).f1)) ∧ w'.cell? ⟨gb237, 0, none⟩ = some (.int .i64 ((rd_T34 t229 2).f0)) ∧ w'.cell? ⟨gb237, 1, none⟩ = some (.int .i64 ((rd_T34 t229 2).f1)) ∧ w'.cell? ⟨gb239, 0, none⟩ = some (.int .i64 ((rd_T34 t229 3).f0)) ∧ w'.cell? ⟨gb239, 1, none⟩ = some (.int .i64 ((rd_T34 t229 3).f1))) (ds := []) #[false, false, false, false, false, false, false, false, false, false, false, false, false, false, false, false, false, false, false, false, false, false, false, false, false, false, false, false, false, false, false, false, false, false, false, false, false, false] (by kernel_rfl) rfl rfl ⟨(blk_cell BK255.out 0).trans rfl, (blk_cell BK255.out 1).trans rfl, (blk_cell BK255.out 2).trans rfl, (blk_cell BK255.out 3).trans rfl, (blk_cell BK233.out 0).trans rfl, (blk_cell BK233.out 1).trans rfl, (blk_cell BK235.out 0).trans rfl, (blk_cell BK235.out 1).trans rfl, (blk_cell BK237.out 0).trans rfl, (blk_cell BK237.out 1).trans rfl, (blk_cell BK239.out 0).trans rfl, (blk_cell BK239.out 1).trans rfl⟩ (fun hHeld => ?_); refine with_tabW laws_FnCurves.tab13 laws_FnCurves.bits13 (fun HT_ HW_ => ?_)
            generalize wr.drew = w99 at BK233 BK235 BK237 BK239 BK247 BK255 HB hHeld ⊢
            refine pure_ (i := 0) (N := some 42) (v := ?_) (a' := ?_) #[true, false, false, false, false, false, false, false, false, false, false, false, false, false, false, false, false, false, false, false, false, false, false, false, false, false, false, false, false, false, false, false, false, false, false, false, false, false] rfl rfl (any_of HT_.out (by kernel_rfl)) (fun _ _ _ h => h) (Or.inl ⟨by rfl, ?_⟩) ?_ ?_
            rotate_left
            ·intro w'
             go_simp
             with_reducible rfl
            rotate_left
            ·simp only [Act.put, List.setIfInBounds_toArray, List.set_cons_zero, List.set_cons_succ, i64_w, i32_w]
             rfl
            refine pure_ (i := 1) (N := some 43) (v := ?_) (a' := ?_) #[true, true, false, false, false, false, false, false, false, false, false, false, false, false, false, false, false, false, false, false, false, false, false, false, false, false, false, false, false, false, false, false, false, false, false, false, false, false] rfl rfl (any_of HT_.out (by kernel_rfl)) (fun _ _ _ h => h) (Or.inl ⟨by rfl, ?_⟩) ?_ ?_
            rotate_left
            ·intro w'
             go_simp
             with_reducible rfl
            rotate_left
            ·simp only [Act.put, List.setIfInBounds_toArray, List.set_cons_zero, List.set_cons_succ, i64_w, i32_w]
             rfl
            refine pure_ (i := 2) (N := some 44) (v := ?_) (a' := ?_) #[true, true, true, false, false, false, false, false, false, false, false, false, false, false, false, false, false, false, false, false, false, false, false, false, false, false, false, false, false, false, false, false, false, false, false, false, false, false] rfl rfl (any_of HT_.out (by kernel_rfl)) (fun _ _ _ h => h) (Or.inl ⟨by rfl, ?_⟩) ?_ ?_
            rotate_left
            ·intro w'
             go_simp
             with_reducible rfl
            rotate_left
            ·simp only [Act.put, List.setIfInBounds_toArray, List.set_cons_zero, List.set_cons_succ, i64_w, i32_w]
             rfl
            refine pure_ (i := 3) (N := some 45) (v := undef) (a' := ?_) #[true, true, true, true, false, false, false, false, false, false, false, false, false, false, false, false, false, false, false, false, false, false, false, false, false, false, false, false, false, false, false, false, false, false, false, false, false, false] rfl rfl (any_of HT_.out (by kernel_rfl)) (fun _ _ _ h => h) (Or.inr ⟨by rfl, rfl⟩) ?_ ?_
            rotate_left
            ·simp only [Act.put, List.setIfInBounds_toArray, List.set_cons_zero, List.set_cons_succ, i64_w, i32_w]
             rfl
            refine pure_ (i := 4) (N := some 46) (v := undef) (a' := ?_) #[true, true, true, true, true, false, false, false, false, false, false, false, false, false, false, false, false, false, false, false, false, false, false, false, false, false, false, false, false, false, false, false, false, false, false, false, false, false] rfl rfl (any_of HT_.out (by kernel_rfl)) (fun _ _ _ h => h) (Or.inr ⟨by rfl, rfl⟩) ?_ ?_
            rotate_left
            ·simp only [Act.put, List.setIfInBounds_toArray, List.set_cons_zero, List.set_cons_succ, i64_w, i32_w]
             rfl
            refine pure_ (i := 5) (N := some 47) (v := undef) (a' := ?_) #[true, true, true, true, true, true, false, false, false, false, false, false, false, false, false, false, false, false, false, false, false, false, false, false, false, false, false, false, false, false, false, false, false, false, false, false, false, false] rfl rfl (any_of HT_.out (by kernel_rfl)) (fun _ _ _ h => h) (Or.inr ⟨by rfl, rfl⟩) ?_ ?_
            rotate_left
            ·simp only [Act.put, List.setIfInBounds_toArray, List.set_cons_zero, List.set_cons_succ, i64_w, i32_w]
             rfl
            refine pure_ (i := 6) (N := some 48) (v := undef) (a' := ?_) #[true, true, true, true, true, true, true, false, false, false, false, false, false, false, false, false, false, false, false, false, false, false, false, false, false, false, false, false, false, false, false, false, false, false, false, false, false, false] rfl rfl (any_of HT_.out (by kernel_rfl)) (fun _ _ _ h => h) (Or.inr ⟨by rfl, rfl⟩) ?_ ?_
            rotate_left
            ·simp only [Act.put, List.setIfInBounds_toArray, List.set_cons_zero, List.set_cons_succ, i64_w, i32_w]
             rfl
            refine pure_ (i := 7) (N := some 49) (v := undef) (a' := ?_) #[true, true, true, true, true, true, true, true, false, false, false, false, false, false, false, false, false, false, false, false, false, false, false, false, false, false, false, false, false, false, false, false, false, false, false, false, false, false] rfl rfl (any_of HT_.out (by kernel_rfl)) (fun _ _ _ h => h) (Or.inr ⟨by rfl, rfl⟩) ?_ ?_
            rotate_left
            ·simp only [Act.put, List.setIfInBounds_toArray, List.set_cons_zero, List.set_cons_succ, i64_w, i32_w]
             rfl
            refine pure_ (i := 8) (N := some 50) (v := undef) (a' := ?_) #[true, true, true, true, true, true, true, true, true, false, false, false, false, false, false, false, false, false, false, false, false, false, false, false, false, false, false, false, false, false, false, false, false, false, false, false, false, false] rfl rfl (any_of HT_.out (by kernel_rfl)) (fun _ _ _ h => h) (Or.inr ⟨by rfl, rfl⟩) ?_ ?_
            rotate_left
            ·simp only [Act.put, List.setIfInBounds_toArray, List.set_cons_zero, List.set_cons_succ, i64_w, i32_w]
             rfl
            refine pure_ (i := 9) (N := some 51) (v := undef) (a' := ?_) #[true, true, true, true, true, true, true, true, true, true, false, false, false, false, false, false, false, false, false, false, false, false, false, false, false, false, false, false, false, false, false, false, false, false, false, false, false, false] rfl rfl (any_of HT_.out (by kernel_rfl)) (fun _ _ _ h => h) (Or.inr ⟨by rfl, rfl⟩) ?_ ?_
            rotate_left
            ·simp only [Act.put, List.setIfInBounds_toArray, List.set_cons_zero, List.set_cons_succ, i64_w, i32_w]
             rfl
            refine pure_ (i := 10) (N := some 52) (v := undef) (a' := ?_) #[true, true, true, true, true, true, true, true, true, true, true, false, false, false, false, false, false, false, false, false, false, false, false, false, false, false, false, false, false, false, false, false, false, false, false, false, false, false] rfl rfl (any_of HT_.out (by kernel_rfl)) (fun _ _ _ h => h) (Or.inr ⟨by rfl, rfl⟩) ?_ ?_
            rotate_left
            ·simp only [Act.put, List.setIfInBounds_toArray, List.set_cons_zero, List.set_cons_succ, i64_w, i32_w]
             rfl
            refine pure_ (i := 11) (N := some 53) (v := ?_) (a' := ?_) #[true, true, true, true, true, true, true, true, true, true, true, true, false, false, false, false, false, false, false, false, false, false, false, false, false, false, false, false, false, false, false, false, false, false, false, false, false, false] rfl rfl (any_of HT_.out (by kernel_rfl)) (fun _ _ _ h => h) (Or.inl ⟨by rfl, ?_⟩) ?_ ?_
            rotate_left
            ·intro w'
             go_simp
             with_reducible rfl
            rotate_left
            ·simp only [Act.put, List.setIfInBounds_toArray, List.set_cons_zero, List.set_cons_succ, i64_w, i32_w]
             rfl
            refine pure_ (i := 12) (N := some 54) (v := ?_) (a' := ?_) #[true, true, true, true, true, true, true, true, true, true, true, true, true, false, false, false, false, false, false, false, false, false, false, false, false, false, false, false, false, false, false, false, false, false, false, false, false, false] rfl rfl (any_of HT_.out (by kernel_rfl)) (fun _ _ _ h => h) (Or.inl ⟨by rfl, ?_⟩) ?_ ?_
            rotate_left
            ·intro w'
             go_simp
             with_reducible rfl
            rotate_left
            ·simp only [Act.put, List.setIfInBounds_toArray, List.set_cons_zero, List.set_cons_succ, i64_w, i32_w]
             rfl
            refine pure_ (i := 18) (N := some 60) (v := ?_) (a' := ?_) #[true, true, true, true, true, true, true, true, true, true, true, true, true, false, false, false, false, false, true, false, false, false, false, false, false, false, false, false, false, false, false, false, false, false, false, false, false, false] rfl rfl (any_of HT_.out (by kernel_rfl)) (fun _ _ _ h => h) (Or.inl ⟨by rfl, ?_⟩) ?_ ?_
            rotate_left
            ·intro w'
             go_simp
             with_reducible rfl
            rotate_left
            ·simp only [Act.put, List.setIfInBounds_toArray, List.set_cons_zero, List.set_cons_succ, i64_w, i32_w]
             rfl
            refine take_ (i := 13) (N := some 55) (v := ?_) (a' := ?_) #[true, true, true, true, true, true, true, true, true, true, true, true, true, true, false, false, false, false, true, false, false, false, false, false, false, false, false, false, false, false, false, false, false, false, false, false, false, false] rfl rfl (take_ofW HT_.out HW_.out (by kernel_rfl)) (fun _ _ _ h => h) (Or.inl ⟨by rfl, ?_⟩) hHeld ?_ ?_
            rotate_left
            ·rintro w' ⟨s0, s1, s2, s3, s4, s5, s6, s7, s8, s9, s10, s11⟩
             go_simp
             with_reducible rfl
            rotate_left
            ·simp only [Act.put, List.setIfInBounds_toArray, List.set_cons_zero, List.set_cons_succ, i64_w, i32_w]
             rfl
            refine take_ (i := 14) (N := some 56) (v := ?_) (a' := ?_) #[true, true, true, true, true, true, true, true, true, true, true, true, true, true, true, false, false, false, true, false, false, false, false, false, false, false, false, false, false, false, false, false, false, false, false, false, false, false] rfl rfl (take_ofW HT_.out HW_.out (by kernel_rfl)) (fun _ _ _ h => h) (Or.inl ⟨by rfl, ?_⟩) hHeld ?_ ?_
            rotate_left
            ·rintro w' ⟨s0, s1, s2, s3, s4, s5, s6, s7, s8, s9, s10, s11⟩
             go_simp
             with_reducible rfl
            rotate_left
            ·simp only [Act.put, List.setIfInBounds_toArray, List.set_cons_zero, List.set_cons_succ, i64_w, i32_w]
             rfl
            refine take_ (i := 15) (N := some 57) (v := ?_) (a' := ?_) #[true, true, true, true, true, true, true, true, true, true, true, true, true, true, true, true, false, false, true, false, false, false, false, false, false, false, false, false, false, false, false, false, false, false, false, false, false, false] rfl rfl (take_ofW HT_.out HW_.out (by kernel_rfl)) (fun _ _ _ h => h) (Or.inl ⟨by rfl, ?_⟩) hHeld ?_ ?_
            rotate_left
            ·rintro w' ⟨s0, s1, s2, s3, s4, s5, s6, s7, s8, s9, s10, s11⟩
             go_simp
             with_reducible rfl
            rotate_left
            ·simp only [Act.put, List.setIfInBounds_toArray, List.set_cons_zero, List.set_cons_succ, i64_w, i32_w]
             rfl
            refine take_ (i := 16) (N := some 58) (v := ?_) (a' := ?_) #[true, true, true, true, true, true, true, true, true, true, true, true, true, true, true, true, true, false, true, false, false, false, false, false, false, false, false, false, false, false, false, false, false, false, false, false, false, false] rfl rfl (take_ofW HT_.out HW_.out (by kernel_rfl)) (fun _ _ _ h => h) (Or.inl ⟨by rfl, ?_⟩) hHeld ?_ ?_
            rotate_left
            ·rintro w' ⟨s0, s1, s2, s3, s4, s5, s6, s7, s8, s9, s10, s11⟩
             go_simp
             with_reducible rfl
            rotate_left
            ·simp only [Act.put, List.setIfInBounds_toArray, List.set_cons_zero, List.set_cons_succ, i64_w, i32_w]
             rfl
            refine take_ (i := 17) (N := some 59) (v := ?_) (a' := ?_) #[true, true, true, true, true, true, true, true, true, true, true, true, true, true, true, true, true, true, true, false, false, false, false, false, false, false, false, false, false, false, false, false, false, false, false, false, false, false] rfl rfl (take_ofW HT_.out HW_.out (by kernel_rfl)) (fun _ _ _ h => h) (Or.inl ⟨by rfl, ?_⟩) hHeld ?_ ?_
            rotate_left
            ·rintro w' ⟨s0, s1, s2, s3, s4, s5, s6, s7, s8, s9, s10, s11⟩
             go_simp
             with_reducible rfl
            rotate_left
            ·simp only [Act.put, List.setIfInBounds_toArray, List.set_cons_zero, List.set_cons_succ, i64_w, i32_w]
             rfl
            refine one_ (i := 19) (N := some 61) #[true, true, true, true, true, true, true, true, true, true, true, true, true, true, true, true, true, true, true, true, false, false, false, false, false, false, false, false, false, false, false, false, false, false, false, false, false, false] rfl rfl (one_of HT_.out (by kernel_rfl)) (by decide) (fun K hK => ?_)
            refine goes_ Try.func31 (by kernel_rfl) rfl #[.agg #[.int .i64 ((rd_T34 t229 0).f0), .int .i64 ((rd_T34 t229 0).f1)], .agg #[.int .i64 ((rd_T34 t229 1).f0), .int .i64 ((rd_T34 t229 1).f1)], .agg #[.int .i64 ((rd_T34 t229 2).f0), .int .i64 ((rd_T34 t229 2).f1)], .agg #[.int .i64 ((rd_T34 t229 3).f0), .int .i64 ((rd_T34 t229 3).f1)], .int .i64 x10_1] (by rfl) rfl rfl (by (try simp only [List.map_toArray, List.map_cons, List.map_nil]); first | done | rfl | (simp only [List.length_drop, List.length_take]; rfl)) ?_
            with_reducible refine (impl_CubicAt.calls k1 ((rd_T34 t229 0).f0) ((rd_T34 t229 0).f1) ((rd_T34 t229 1).f0) ((rd_T34 t229 1).f1) ((rd_T34 t229 2).f0) ((rd_T34 t229 2).f1) ((rd_T34 t229 3).f0) ((rd_T34 t229 3).f1) x10_1 t266 t267 _ A88.out).mono ?_
            rintro e w100 ⟨rfl, hb⟩
            refine ⟨_, rfl, ?_⟩
            have n0_ := Aside0.mk (blk_below (g := gb233) (o := .cells #[.int .i64 ((rd_T34 t229 0).f0), .int .i64 ((rd_T34 t229 0).f1)] 34 (0, 0)) (by (with_reducible repeat (first | refine blk_drewN ?_ _ | refine blk_drew ?_ | refine blk_alloc ?_ _)); exact BK233.out) hb)
            have n1_ := Aside0.mk (blk_below (g := gb235) (o := .cells #[.int .i64 ((rd_T34 t229 1).f0), .int .i64 ((rd_T34 t229 1).f1)] 34 (0, 0)) (by (with_reducible repeat (first | refine blk_drewN ?_ _ | refine blk_drew ?_ | refine blk_alloc ?_ _)); exact BK235.out) hb)
            have n2_ := Aside0.mk (blk_below (g := gb237) (o := .cells #[.int .i64 ((rd_T34 t229 2).f0), .int .i64 ((rd_T34 t229 2).f1)] 34 (0, 0)) (by (with_reducible repeat (first | refine blk_drewN ?_ _ | refine blk_drew ?_ | refine blk_alloc ?_ _)); exact BK237.out) hb)
            have n3_ := Aside0.mk (blk_below (g := gb239) (o := .cells #[.int .i64 ((rd_T34 t229 3).f0), .int .i64 ((rd_T34 t229 3).f1)] 34 (0, 0)) (by (with_reducible repeat (first | refine blk_drewN ?_ _ | refine blk_drew ?_ | refine blk_alloc ?_ _)); exact BK239.out) hb)
            have n4_ := Aside0.mk (blk_below (g := gb247) (o := .cells #[.int .i64 t243, .int .i64 t244, .int .i64 t245, .int .i64 t246] 26 (0, 0)) (by (with_reducible repeat (first | refine blk_drewN ?_ _ | refine blk_drew ?_ | refine blk_alloc ?_ _)); exact BK247.out) hb)
            have n5_ := Aside0.mk (blk_below (g := gb255) (o := .cells #[.int .i64 t251, .int .i64 t252, .int .i64 t253, .int .i64 t254] 26 (0, 0)) (by (with_reducible repeat (first | refine blk_drewN ?_ _ | refine blk_drew ?_ | refine blk_alloc ?_ _)); exact BK255.out) hb)
            have n6_ := Aside0.mk (below_step (by repeat (first | (with_reducible first | exact HB.out | apply below_alloc | apply pw_below_drewN | apply below_drew1 | refine below_set ?_ GE233.out | refine below_set ?_ GE235.out | refine below_set ?_ GE237.out | refine below_set ?_ GE239.out | refine below_set ?_ GE247.out | refine below_set ?_ GE255.out) | exact HB.out)) hb)
            clear BK233
            clear BK235
            clear BK237
            clear BK239
            clear BK247
            clear BK255
            clear HB
            have BK233 := n0_
            have BK235 := n1_
            have BK237 := n2_
            have BK239 := n3_
            have BK247 := n4_
            have BK255 := n5_
            have HB := n6_
            clear n0_ n1_ n2_ n3_ n4_ n5_ n6_
            (try clear hb)
            (try clear hb2)
            (try clear hk)
            (try clear hi)
            refine hK.out _ _ ⟨(blk_cell BK255.out 0).trans rfl, (blk_cell BK255.out 1).trans rfl, (blk_cell BK255.out 2).trans rfl, (blk_cell BK255.out 3).trans rfl, (blk_cell BK233.out 0).trans rfl, (blk_cell BK233.out 1).trans rfl, (blk_cell BK235.out 0).trans rfl, (blk_cell BK235.out 1).trans rfl, (blk_cell BK237.out 0).trans rfl, (blk_cell BK237.out 1).trans rfl, (blk_cell BK239.out 0).trans rfl, (blk_cell BK239.out 1).trans rfl⟩ (fun hHeld => ?_)
            clear hK K
            refine norm_ (a' := ?_) ?_ ?_
            rotate_left
            ·show Act.put _ (some 61) _ = _
             simp only [Act.put, List.setIfInBounds_toArray, List.set_cons_zero, List.set_cons_succ, i64_w, i32_w]
             rfl
            refine one_ (i := 20) (N := some 62) #[true, true, true, true, true, true, true, true, true, true, true, true, true, true, true, true, true, true, true, true, true, false, false, false, false, false, false, false, false, false, false, false, false, false, false, false, false, false] rfl rfl (one_of HT_.out (by kernel_rfl)) (by decide) (fun K hK => ?_)
            refine goes_ Try.func25 (by kernel_rfl) rfl #[.agg #[.int .i64 t251, .int .i64 t252, .int .i64 t253, .int .i64 t254], .agg #[.int .i64 t266, .int .i64 t267]] (by rfl) rfl rfl (by (try simp only [List.map_toArray, List.map_cons, List.map_nil]); first | done | rfl | (simp only [List.length_drop, List.length_take]; rfl)) ?_
            with_reducible refine (spec_InBox.calls t251 t252 t253 t254 t266 t267 true _ A89.out).mono ?_
            rintro e w101 ⟨rfl, hb⟩
            refine ⟨_, rfl, ?_⟩
            have n0_ := Aside0.mk (blk_below (g := gb233) (o := .cells #[.int .i64 ((rd_T34 t229 0).f0), .int .i64 ((rd_T34 t229 0).f1)] 34 (0, 0)) (by (with_reducible repeat (first | refine blk_drewN ?_ _ | refine blk_drew ?_ | refine blk_alloc ?_ _)); exact BK233.out) hb)
            have n1_ := Aside0.mk (blk_below (g := gb235) (o := .cells #[.int .i64 ((rd_T34 t229 1).f0), .int .i64 ((rd_T34 t229 1).f1)] 34 (0, 0)) (by (with_reducible repeat (first | refine blk_drewN ?_ _ | refine blk_drew ?_ | refine blk_alloc ?_ _)); exact BK235.out) hb)
            have n2_ := Aside0.mk (blk_below (g := gb237) (o := .cells #[.int .i64 ((rd_T34 t229 2).f0), .int .i64 ((rd_T34 t229 2).f1)] 34 (0, 0)) (by (with_reducible repeat (first | refine blk_drewN ?_ _ | refine blk_drew ?_ | refine blk_alloc ?_ _)); exact BK237.out) hb)
            have n3_ := Aside0.mk (blk_below (g := gb239) (o := .cells #[.int .i64 ((rd_T34 t229 3).f0), .int .i64 ((rd_T34 t229 3).f1)] 34 (0, 0)) (by (with_reducible repeat (first | refine blk_drewN ?_ _ | refine blk_drew ?_ | refine blk_alloc ?_ _)); exact BK239.out) hb)
            have n4_ := Aside0.mk (blk_below (g := gb247) (o := .cells #[.int .i64 t243, .int .i64 t244, .int .i64 t245, .int .i64 t246] 26 (0, 0)) (by (with_reducible repeat (first | refine blk_drewN ?_ _ | refine blk_drew ?_ | refine blk_alloc ?_ _)); exact BK247.out) hb)
            have n5_ := Aside0.mk (blk_below (g := gb255) (o := .cells #[.int .i64 t251, .int .i64 t252, .int .i64 t253, .int .i64 t254] 26 (0, 0)) (by (with_reducible repeat (first | refine blk_drewN ?_ _ | refine blk_drew ?_ | refine blk_alloc ?_ _)); exact BK255.out) hb)
            have n6_ := Aside0.mk (below_step (by repeat (first | (with_reducible first | exact HB.out | apply below_alloc | apply pw_below_drewN | apply below_drew1 | refine below_set ?_ GE233.out | refine below_set ?_ GE235.out | refine below_set ?_ GE237.out | refine below_set ?_ GE239.out | refine below_set ?_ GE247.out | refine below_set ?_ GE255.out) | exact HB.out)) hb)
            clear BK233
            clear BK235
            clear BK237
            clear BK239
            clear BK247
            clear BK255
            clear HB
            have BK233 := n0_
            have BK235 := n1_
            have BK237 := n2_
            have BK239 := n3_
            have BK247 := n4_
            have BK255 := n5_
            have HB := n6_
            clear n0_ n1_ n2_ n3_ n4_ n5_ n6_
            (try clear hb)
            (try clear hb2)
            (try clear hk)
            (try clear hi)
            refine hK.out _ _ ⟨(blk_cell BK255.out 0).trans rfl, (blk_cell BK255.out 1).trans rfl, (blk_cell BK255.out 2).trans rfl, (blk_cell BK255.out 3).trans rfl, (blk_cell BK233.out 0).trans rfl, (blk_cell BK233.out 1).trans rfl, (blk_cell BK235.out 0).trans rfl, (blk_cell BK235.out 1).trans rfl, (blk_cell BK237.out 0).trans rfl, (blk_cell BK237.out 1).trans rfl, (blk_cell BK239.out 0).trans rfl, (blk_cell BK239.out 1).trans rfl⟩ (fun hHeld => ?_)
            clear hK K
            refine norm_ (a' := ?_) ?_ ?_
            rotate_left
            ·show Act.put _ (some 62) _ = _
             simp only [Act.put, List.setIfInBounds_toArray, List.set_cons_zero, List.set_cons_succ, i64_w, i32_w]
             rfl
            refine pure_ (i := 21) (N := some 63) (v := ?_) (a' := ?_) #[true, true, true, true, true, true, true, true, true, true, true, true, true, true, true, true, true, true, true, true, true, true, false, false, false, false, false, false, false, false, false, false, false, false, false, false, false, false] rfl rfl (any_of HT_.out (by kernel_rfl)) (fun _ _ _ h => h) (Or.inl ⟨by rfl, ?_⟩) ?_ ?_
            rotate_left
            ·intro w'
             go_simp
             with_reducible rfl
            rotate_left
            ·simp only [Act.put, List.setIfInBounds_toArray, List.set_cons_zero, List.set_cons_succ, i64_w, i32_w]
             rfl
            refine pure_ (i := 22) (N := some 64) (v := ?_) (a' := ?_) #[true, true, true, true, true, true, true, true, true, true, true, true, true, true, true, true, true, true, true, true, true, true, true, false, false, false, false, false, false, false, false, false, false, false, false, false, false, false] rfl rfl (any_of HT_.out (by kernel_rfl)) (fun _ _ _ h => h) (Or.inl ⟨by rfl, ?_⟩) ?_ ?_
            rotate_left
            ·intro w'
             go_simp
             with_reducible rfl
            rotate_left
            ·simp only [Act.put, List.setIfInBounds_toArray, List.set_cons_zero, List.set_cons_succ, i64_w, i32_w]
             rfl
            refine pure_ (i := 23) (N := some 65) (v := ?_) (a' := ?_) #[true, true, true, true, true, true, true, true, true, true, true, true, true, true, true, true, true, true, true, true, true, true, true, true, false, false, false, false, false, false, false, false, false, false, false, false, false, false] rfl rfl (any_of HT_.out (by kernel_rfl)) (fun _ _ _ h => h) (Or.inl ⟨by rfl, ?_⟩) ?_ ?_
            rotate_left
            ·intro w'
             go_simp
             with_reducible rfl
            rotate_left
            ·simp only [Act.put, List.setIfInBounds_toArray, List.set_cons_zero, List.set_cons_succ, i64_w, i32_w]
             rfl
            refine pure_ (i := 28) (N := some 70) (v := ?_) (a' := ?_) #[true, true, true, true, true, true, true, true, true, true, true, true, true, true, true, true, true, true, true, true, true, true, true, true, false, false, false, false, true, false, false, false, false, false, false, false, false, false] rfl rfl (any_of HT_.out (by kernel_rfl)) (fun _ _ _ h => h) (Or.inl ⟨by rfl, ?_⟩) ?_ ?_
            rotate_left
            ·intro w'
             go_simp
             with_reducible rfl
            rotate_left
            ·simp only [Act.put, List.setIfInBounds_toArray, List.set_cons_zero, List.set_cons_succ, i64_w, i32_w]
             rfl
            refine pure_ (i := 34) (N := some 76) (v := ?_) (a' := ?_) #[true, true, true, true, true, true, true, true, true, true, true, true, true, true, true, true, true, true, true, true, true, true, true, true, false, false, false, false, true, false, false, false, false, false, true, false, false, false] rfl rfl (any_of HT_.out (by kernel_rfl)) (fun _ _ _ h => h) (Or.inl ⟨by rfl, ?_⟩) ?_ ?_
            rotate_left
            ·intro w'
             go_simp
             with_reducible rfl
            rotate_left
            ·simp only [Act.put, List.setIfInBounds_toArray, List.set_cons_zero, List.set_cons_succ, i64_w, i32_w]
             rfl
            refine take_ (i := 24) (N := some 66) (v := ?_) (a' := ?_) #[true, true, true, true, true, true, true, true, true, true, true, true, true, true, true, true, true, true, true, true, true, true, true, true, true, false, false, false, true, false, false, false, false, false, true, false, false, false] rfl rfl (take_ofW HT_.out HW_.out (by kernel_rfl)) (fun _ _ _ h => h) (Or.inl ⟨by rfl, ?_⟩) hHeld ?_ ?_
            rotate_left
            ·rintro w' ⟨s0, s1, s2, s3, s4, s5, s6, s7, s8, s9, s10, s11⟩
             go_simp
             with_reducible rfl
            rotate_left
            ·simp only [Act.put, List.setIfInBounds_toArray, List.set_cons_zero, List.set_cons_succ, i64_w, i32_w]
             rfl
            refine take_ (i := 25) (N := some 67) (v := ?_) (a' := ?_) #[true, true, true, true, true, true, true, true, true, true, true, true, true, true, true, true, true, true, true, true, true, true, true, true, true, true, false, false, true, false, false, false, false, false, true, false, false, false] rfl rfl (take_ofW HT_.out HW_.out (by kernel_rfl)) (fun _ _ _ h => h) (Or.inl ⟨by rfl, ?_⟩) hHeld ?_ ?_
            rotate_left
            ·rintro w' ⟨s0, s1, s2, s3, s4, s5, s6, s7, s8, s9, s10, s11⟩
             go_simp
             with_reducible rfl
            rotate_left
            ·simp only [Act.put, List.setIfInBounds_toArray, List.set_cons_zero, List.set_cons_succ, i64_w, i32_w]
             rfl
            refine take_ (i := 26) (N := some 68) (v := ?_) (a' := ?_) #[true, true, true, true, true, true, true, true, true, true, true, true, true, true, true, true, true, true, true, true, true, true, true, true, true, true, true, false, true, false, false, false, false, false, true, false, false, false] rfl rfl (take_ofW HT_.out HW_.out (by kernel_rfl)) (fun _ _ _ h => h) (Or.inl ⟨by rfl, ?_⟩) hHeld ?_ ?_
            rotate_left
            ·rintro w' ⟨s0, s1, s2, s3, s4, s5, s6, s7, s8, s9, s10, s11⟩
             go_simp
             with_reducible rfl
            rotate_left
            ·simp only [Act.put, List.setIfInBounds_toArray, List.set_cons_zero, List.set_cons_succ, i64_w, i32_w]
             rfl
            refine take_ (i := 27) (N := some 69) (v := ?_) (a' := ?_) #[true, true, true, true, true, true, true, true, true, true, true, true, true, true, true, true, true, true, true, true, true, true, true, true, true, true, true, true, true, false, false, false, false, false, true, false, false, false] rfl rfl (take_ofW HT_.out HW_.out (by kernel_rfl)) (fun _ _ _ h => h) (Or.inl ⟨by rfl, ?_⟩) hHeld ?_ ?_
            rotate_left
            ·rintro w' ⟨s0, s1, s2, s3, s4, s5, s6, s7, s8, s9, s10, s11⟩
             go_simp
             with_reducible rfl
            rotate_left
            ·simp only [Act.put, List.setIfInBounds_toArray, List.set_cons_zero, List.set_cons_succ, i64_w, i32_w]
             rfl
            refine take_ (i := 30) (N := some 72) (v := ?_) (a' := ?_) #[true, true, true, true, true, true, true, true, true, true, true, true, true, true, true, true, true, true, true, true, true, true, true, true, true, true, true, true, true, false, true, false, false, false, true, false, false, false] rfl rfl (take_ofW HT_.out HW_.out (by kernel_rfl)) (fun _ _ _ h => h) (Or.inl ⟨by rfl, ?_⟩) hHeld ?_ ?_
            rotate_left
            ·rintro w' ⟨s0, s1, s2, s3, s4, s5, s6, s7, s8, s9, s10, s11⟩
             go_simp
             with_reducible rfl
            rotate_left
            ·simp only [Act.put, List.setIfInBounds_toArray, List.set_cons_zero, List.set_cons_succ, i64_w, i32_w]
             rfl
            refine take_ (i := 31) (N := some 73) (v := ?_) (a' := ?_) #[true, true, true, true, true, true, true, true, true, true, true, true, true, true, true, true, true, true, true, true, true, true, true, true, true, true, true, true, true, false, true, true, false, false, true, false, false, false] rfl rfl (take_ofW HT_.out HW_.out (by kernel_rfl)) (fun _ _ _ h => h) (Or.inl ⟨by rfl, ?_⟩) hHeld ?_ ?_
            rotate_left
            ·rintro w' ⟨s0, s1, s2, s3, s4, s5, s6, s7, s8, s9, s10, s11⟩
             go_simp
             with_reducible rfl
            rotate_left
            ·simp only [Act.put, List.setIfInBounds_toArray, List.set_cons_zero, List.set_cons_succ, i64_w, i32_w]
             rfl
            refine take_ (i := 32) (N := some 74) (v := ?_) (a' := ?_) #[true, true, true, true, true, true, true, true, true, true, true, true, true, true, true, true, true, true, true, true, true, true, true, true, true, true, true, true, true, false, true, true, true, false, true, false, false, false] rfl rfl (take_ofW HT_.out HW_.out (by kernel_rfl)) (fun _ _ _ h => h) (Or.inl ⟨by rfl, ?_⟩) hHeld ?_ ?_
            rotate_left
            ·rintro w' ⟨s0, s1, s2, s3, s4, s5, s6, s7, s8, s9, s10, s11⟩
             go_simp
             with_reducible rfl
            rotate_left
            ·simp only [Act.put, List.setIfInBounds_toArray, List.set_cons_zero, List.set_cons_succ, i64_w, i32_w]
             rfl
            refine take_ (i := 33) (N := some 75) (v := ?_) (a' := ?_) #[true, true, true, true, true, true, true, true, true, true, true, true, true, true, true, true, true, true, true, true, true, true, true, true, true, true, true, true, true, false, true, true, true, true, true, false, false, false] rfl rfl (take_ofW HT_.out HW_.out (by kernel_rfl)) (fun _ _ _ h => h) (Or.inl ⟨by rfl, ?_⟩) hHeld ?_ ?_
            rotate_left
            ·rintro w' ⟨s0, s1, s2, s3, s4, s5, s6, s7, s8, s9, s10, s11⟩
             go_simp
             with_reducible rfl
            rotate_left
            ·simp only [Act.put, List.setIfInBounds_toArray, List.set_cons_zero, List.set_cons_succ, i64_w, i32_w]
             rfl
            refine one_ (i := 29) (N := some 71) #[true, true, true, true, true, true, true, true, true, true, true, true, true, true, true, true, true, true, true, true, true, true, true, true, true, true, true, true, true, true, true, true, true, true, true, false, false, false] rfl rfl (one_of HT_.out (by kernel_rfl)) (by decide) (fun K hK => ?_)
            refine goes_ Try.func31 (by kernel_rfl) rfl #[.agg #[.int .i64 ((rd_T34 t229 0).f0), .int .i64 ((rd_T34 t229 0).f1)], .agg #[.int .i64 ((rd_T34 t229 1).f0), .int .i64 ((rd_T34 t229 1).f1)], .agg #[.int .i64 ((rd_T34 t229 2).f0), .int .i64 ((rd_T34 t229 2).f1)], .agg #[.int .i64 ((rd_T34 t229 3).f0), .int .i64 ((rd_T34 t229 3).f1)], .int .i64 x10_1] (by rfl) rfl rfl (by (try simp only [List.map_toArray, List.map_cons, List.map_nil]); first | done | rfl | (simp only [List.length_drop, List.length_take]; rfl)) ?_
            with_reducible refine (impl_CubicAt.calls k1 ((rd_T34 t229 0).f0) ((rd_T34 t229 0).f1) ((rd_T34 t229 1).f0) ((rd_T34 t229 1).f1) ((rd_T34 t229 2).f0) ((rd_T34 t229 2).f1) ((rd_T34 t229 3).f0) ((rd_T34 t229 3).f1) x10_1 t269 t270 _ A91.out).mono ?_
            rintro e w102 ⟨rfl, hb⟩
            refine ⟨_, rfl, ?_⟩
            have n0_ := Aside0.mk (blk_below (g := gb233) (o := .cells #[.int .i64 ((rd_T34 t229 0).f0), .int .i64 ((rd_T34 t229 0).f1)] 34 (0, 0)) (by (with_reducible repeat (first | refine blk_drewN ?_ _ | refine blk_drew ?_ | refine blk_alloc ?_ _)); exact BK233.out) hb)
            have n1_ := Aside0.mk (blk_below (g := gb235) (o := .cells #[.int .i64 ((rd_T34 t229 1).f0), .int .i64 ((rd_T34 t229 1).f1)] 34 (0, 0)) (by (with_reducible repeat (first | refine blk_drewN ?_ _ | refine blk_drew ?_ | refine blk_alloc ?_ _)); exact BK235.out) hb)
            have n2_ := Aside0.mk (blk_below (g := gb237) (o := .cells #[.int .i64 ((rd_T34 t229 2).f0), .int .i64 ((rd_T34 t229 2).f1)] 34 (0, 0)) (by (with_reducible repeat (first | refine blk_drewN ?_ _ | refine blk_drew ?_ | refine blk_alloc ?_ _)); exact BK237.out) hb)
            have n3_ := Aside0.mk (blk_below (g := gb239) (o := .cells #[.int .i64 ((rd_T34 t229 3).f0), .int .i64 ((rd_T34 t229 3).f1)] 34 (0, 0)) (by (with_reducible repeat (first | refine blk_drewN ?_ _ | refine blk_drew ?_ | refine blk_alloc ?_ _)); exact BK239.out) hb)
            have n4_ := Aside0.mk (blk_below (g := gb247) (o := .cells #[.int .i64 t243, .int .i64 t244, .int .i64 t245, .int .i64 t246] 26 (0, 0)) (by (with_reducible repeat (first | refine blk_drewN ?_ _ | refine blk_drew ?_ | refine blk_alloc ?_ _)); exact BK247.out) hb)
            have n5_ := Aside0.mk (blk_below (g := gb255) (o := .cells #[.int .i64 t251, .int .i64 t252, .int .i64 t253, .int .i64 t254] 26 (0, 0)) (by (with_reducible repeat (first | refine blk_drewN ?_ _ | refine blk_drew ?_ | refine blk_alloc ?_ _)); exact BK255.out) hb)
            have n6_ := Aside0.mk (below_step (by repeat (first | (with_reducible first | exact HB.out | apply below_alloc | apply pw_below_drewN | apply below_drew1 | refine below_set ?_ GE233.out | refine below_set ?_ GE235.out | refine below_set ?_ GE237.out | refine below_set ?_ GE239.out | refine below_set ?_ GE247.out | refine below_set ?_ GE255.out) | exact HB.out)) hb)
            clear BK233
            clear BK235
            clear BK237
            clear BK239
            clear BK247
            clear BK255
            clear HB
            have BK233 := n0_
            have BK235 := n1_
            have BK237 := n2_
            have BK239 := n3_
            have BK247 := n4_
            have BK255 := n5_
            have HB := n6_
            clear n0_ n1_ n2_ n3_ n4_ n5_ n6_
            (try clear hb)
            (try clear hb2)
            (try clear hk)
            (try clear hi)
            refine hK.out _ _ ⟨(blk_cell BK255.out 0).trans rfl, (blk_cell BK255.out 1).trans rfl, (blk_cell BK255.out 2).trans rfl, (blk_cell BK255.out 3).trans rfl, (blk_cell BK233.out 0).trans rfl, (blk_cell BK233.out 1).trans rfl, (blk_cell BK235.out 0).trans rfl, (blk_cell BK235.out 1).trans rfl, (blk_cell BK237.out 0).trans rfl, (blk_cell BK237.out 1).trans rfl, (blk_cell BK239.out 0).trans rfl, (blk_cell BK239.out 1).trans rfl⟩ (fun hHeld => ?_)
            clear hK K
            refine norm_ (a' := ?_) ?_ ?_
            rotate_left
            ·show Act.put _ (some 71) _ = _
             simp only [Act.put, List.setIfInBounds_toArray, List.set_cons_zero, List.set_cons_succ, i64_w, i32_w]
             rfl
            refine one_ (i := 35) (N := some 77) #[true, true, true, true, true, true, true, true, true, true, true, true, true, true, true, true, true, true, true, true, true, true, true, true, true, true, true, true, true, true, true, true, true, true, true, true, false, false] rfl rfl (one_of HT_.out (by kernel_rfl)) (by decide) (fun K hK => ?_)
            refine goes_ Try.func32 (by kernel_rfl) rfl #[.agg #[.int .i64 ((rd_T34 t229 0).f0), .int .i64 ((rd_T34 t229 0).f1)], .agg #[.int .i64 ((rd_T34 t229 1).f0), .int .i64 ((rd_T34 t229 1).f1)], .agg #[.int .i64 ((rd_T34 t229 2).f0), .int .i64 ((rd_T34 t229 2).f1)], .agg #[.int .i64 ((rd_T34 t229 3).f0), .int .i64 ((rd_T34 t229 3).f1)], .int .i64 x10_1] (by rfl) rfl rfl (by (try simp only [List.map_toArray, List.map_cons, List.map_nil]); first | done | rfl | (simp only [List.length_drop, List.length_take]; rfl)) ?_
            with_reducible refine (spec_CubicAt.calls k1 ((rd_T34 t229 0).f0) ((rd_T34 t229 0).f1) ((rd_T34 t229 1).f0) ((rd_T34 t229 1).f1) ((rd_T34 t229 2).f0) ((rd_T34 t229 2).f1) ((rd_T34 t229 3).f0) ((rd_T34 t229 3).f1) x10_1 t271 t272 _ A92.out).mono ?_
            rintro e w103 ⟨rfl, hb⟩
            refine ⟨_, rfl, ?_⟩
            have n0_ := Aside0.mk (blk_below (g := gb233) (o := .cells #[.int .i64 ((rd_T34 t229 0).f0), .int .i64 ((rd_T34 t229 0).f1)] 34 (0, 0)) (by (with_reducible repeat (first | refine blk_drewN ?_ _ | refine blk_drew ?_ | refine blk_alloc ?_ _)); exact BK233.out) hb)
            have n1_ := Aside0.mk (blk_below (g := gb235) (o := .cells #[.int .i64 ((rd_T34 t229 1).f0), .int .i64 ((rd_T34 t229 1).f1)] 34 (0, 0)) (by (with_reducible repeat (first | refine blk_drewN ?_ _ | refine blk_drew ?_ | refine blk_alloc ?_ _)); exact BK235.out) hb)
            have n2_ := Aside0.mk (blk_below (g := gb237) (o := .cells #[.int .i64 ((rd_T34 t229 2).f0), .int .i64 ((rd_T34 t229 2).f1)] 34 (0, 0)) (by (with_reducible repeat (first | refine blk_drewN ?_ _ | refine blk_drew ?_ | refine blk_alloc ?_ _)); exact BK237.out) hb)
            have n3_ := Aside0.mk (blk_below (g := gb239) (o := .cells #[.int .i64 ((rd_T34 t229 3).f0), .int .i64 ((rd_T34 t229 3).f1)] 34 (0, 0)) (by (with_reducible repeat (first | refine blk_drewN ?_ _ | refine blk_drew ?_ | refine blk_alloc ?_ _)); exact BK239.out) hb)
            have n4_ := Aside0.mk (blk_below (g := gb247) (o := .cells #[.int .i64 t243, .int .i64 t244, .int .i64 t245, .int .i64 t246] 26 (0, 0)) (by (with_reducible repeat (first | refine blk_drewN ?_ _ | refine blk_drew ?_ | refine blk_alloc ?_ _)); exact BK247.out) hb)
            have n5_ := Aside0.mk (blk_below (g := gb255) (o := .cells #[.int .i64 t251, .int .i64 t252, .int .i64 t253, .int .i64 t254] 26 (0, 0)) (by (with_reducible repeat (first | refine blk_drewN ?_ _ | refine blk_drew ?_ | refine blk_alloc ?_ _)); exact BK255.out) hb)
            have n6_ := Aside0.mk (below_step (by repeat (first | (with_reducible first | exact HB.out | apply below_alloc | apply pw_below_drewN | apply below_drew1 | refine below_set ?_ GE233.out | refine below_set ?_ GE235.out | refine below_set ?_ GE237.out | refine below_set ?_ GE239.out | refine below_set ?_ GE247.out | refine below_set ?_ GE255.out) | exact HB.out)) hb)
            clear BK233
            clear BK235
            clear BK237
            clear BK239
            clear BK247
            clear BK255
            clear HB
            have BK233 := n0_
            have BK235 := n1_
            have BK237 := n2_
            have BK239 := n3_
            have BK247 := n4_
            have BK255 := n5_
            have HB := n6_
            clear n0_ n1_ n2_ n3_ n4_ n5_ n6_
            (try clear hb)
            (try clear hb2)
            (try clear hk)
            (try clear hi)
            refine hK.out _ _ ⟨(blk_cell BK255.out 0).trans rfl, (blk_cell BK255.out 1).trans rfl, (blk_cell BK255.out 2).trans rfl, (blk_cell BK255.out 3).trans rfl, (blk_cell BK233.out 0).trans rfl, (blk_cell BK233.out 1).trans rfl, (blk_cell BK235.out 0).trans rfl, (blk_cell BK235.out 1).trans rfl, (blk_cell BK237.out 0).trans rfl, (blk_cell BK237.out 1).trans rfl, (blk_cell BK239.out 0).trans rfl, (blk_cell BK239.out 1).trans rfl⟩ (fun hHeld => ?_)
            clear hK K
            refine norm_ (a' := ?_) ?_ ?_
            rotate_left
            ·show Act.put _ (some 77) _ = _
             simp only [Act.put, List.setIfInBounds_toArray, List.set_cons_zero, List.set_cons_succ, i64_w, i32_w]
             rfl
            refine pure_ (i := 36) (N := some 78) (v := ?_) (a' := ?_) #[true, true, true, true, true, true, true, true, true, true, true, true, true, true, true, true, true, true, true, true, true, true, true, true, true, true, true, true, true, true, true, true, true, true, true, true, true, false] rfl rfl (any_of HT_.out (by kernel_rfl)) (fun _ _ _ h => h) (Or.inl ⟨by rfl, ?_⟩) ?_ ?_
            rotate_left
            ·intro w'
             go_simp
             with_reducible rfl
            rotate_left
            ·simp only [Act.put, List.setIfInBounds_toArray, List.set_cons_zero, List.set_cons_succ, i64_w, i32_w]
             rfl
            refine pure_ (i := 37) (N := some 79) (v := ?_) (a' := ?_) #[true, true, true, true, true, true, true, true, true, true, true, true, true, true, true, true, true, true, true, true, true, true, true, true, true, true, true, true, true, true, true, true, true, true, true, true, true, true] rfl rfl (any_of HT_.out (by kernel_rfl)) (fun _ _ _ h => h) (Or.inl ⟨by rfl, ?_⟩) ?_ ?_
            rotate_left
            ·intro w'
             go_simp
             with_reducible rfl
            rotate_left
            ·simp only [Act.put, List.setIfInBounds_toArray, List.set_cons_zero, List.set_cons_succ, i64_w, i32_w]
             rfl
            refine done_ (done_of HT_.out (by kernel_rfl)) ?_
            try go_wp2
            go_roundg k1
            case measure => have := HK1.out; omega
            case rel => exact ⟨(wrap64 (x10_1 + 1)), (by first | rfl | (simp; done) | (simp [*]; done)), H', ⟨by have := HK1.out; omega⟩, ⟨by (with_reducible repeat (first | refine blk_drewN ?_ _ | refine blk_drew ?_ | refine blk_alloc ?_ _)); exact BK233.out⟩, ⟨by (with_reducible repeat (first | refine blk_drewN ?_ _ | refine blk_drew ?_ | refine blk_alloc ?_ _)); exact BK235.out⟩, ⟨by (with_reducible repeat (first | refine blk_drewN ?_ _ | refine blk_drew ?_ | refine blk_alloc ?_ _)); exact BK237.out⟩, ⟨by (with_reducible repeat (first | refine blk_drewN ?_ _ | refine blk_drew ?_ | refine blk_alloc ?_ _)); exact BK239.out⟩, ⟨by (with_reducible repeat (first | refine blk_drewN ?_ _ | refine blk_drew ?_ | refine blk_alloc ?_ _)); exact BK247.out⟩, ⟨by (with_reducible repeat (first | refine blk_drewN ?_ _ | refine blk_drew ?_ | refine blk_alloc ?_ _)); exact BK255.out⟩, ⟨by repeat (first | (with_reducible first | exact HB.out | apply below_alloc | apply pw_below_drewN | apply below_drew1 | refine below_set ?_ GE233.out | refine below_set ?_ GE235.out | refine below_set ?_ GE237.out | refine below_set ?_ GE239.out | refine below_set ?_ GE247.out | refine below_set ?_ GE255.out) | exact HB.out)⟩⟩
          ·replace c90 := Bool.eq_false_iff.mpr c90
           subst c90
           have H1 : (some false) = some r := by rw [if_neg (show ¬ (false = true) by decide)] at H; exact H
           clear H
           have H := H1
           clear H1
           obtain rfl := Option.some.inj H
           exact absurd hr_ (by decide)
        ·rw [if_neg c55] at H
         have c55b0 : decide (x10_1 ≤ 8) = false := decide_eq_false c55
         clear c55
         replace H := Option.bind_eq_some_iff.mp H
         obtain ⟨⟨t273, t274⟩, A1070, H⟩ := H
         replace H : (if (t273 == ((rd_T34 t229 0).f0) && (t274 == ((rd_T34 t229 0).f1))) = true then ((impl_QuadAt.f k1 ((rd_T34 t229 0).f0) ((rd_T34 t229 0).f1) ((rd_T34 t229 1).f0) ((rd_T34 t229 1).f1) ((rd_T34 t229 2).f0) ((rd_T34 t229 2).f1) 4).bind fun bt275 => (if (bt275.1 == ((rd_T34 t229 2).f0) && (bt275.2 == ((rd_T34 t229 2).f1))) = true then ((impl_CubicAt.f k1 ((rd_T34 t229 0).f0) ((rd_T34 t229 0).f1) ((rd_T34 t229 1).f0) ((rd_T34 t229 1).f1) ((rd_T34 t229 2).f0) ((rd_T34 t229 2).f1) ((rd_T34 t229 3).f0) ((rd_T34 t229 3).f1) 0).bind fun bt277 => (if (bt277.1 == ((rd_T34 t229 0).f0) && (bt277.2 == ((rd_T34 t229 0).f1))) = true then ((impl_CubicAt.f k1 ((rd_T34 t229 0).f0) ((rd_T34 t229 0).f1) ((rd_T34 t229 1).f0) ((rd_T34 t229 1).f1) ((rd_T34 t229 2).f0) ((rd_T34 t229 2).f1) ((rd_T34 t229 3).f0) ((rd_T34 t229 3).f1) 8).bind fun bt279 => (if (bt279.1 == ((rd_T34 t229 3).f0) && (bt279.2 == ((rd_T34 t229 3).f1))) = true then ((impl_QuadAt.f k1 ((rd_T34 t229 0).f0) ((rd_T34 t229 0).f1) ((rd_T34 t229 1).f0) ((rd_T34 t229 1).f1) ((rd_T34 t229 2).f0) ((rd_T34 t229 2).f1) (-5)).bind fun bt281 => (if (bt281.1 == ((rd_T34 t229 0).f0) && (bt281.2 == ((rd_T34 t229 0).f1))) = true then ((impl_QuadAt.f k1 ((rd_T34 t229 0).f0) ((rd_T34 t229 0).f1) ((rd_T34 t229 0).f0) ((rd_T34 t229 0).f1) ((rd_T34 t229 0).f0) ((rd_T34 t229 0).f1) 2).bind fun bt283 => (some (bt283.1 == ((rd_T34 t229 0).f0) && (bt283.2 == ((rd_T34 t229 0).f1))))) else (some false))) else (some false))) else (some false))) else (some false))) else (some false)) = some r := H
         have A107 := Aside0.mk A1070
         clear A1070
         by_cases c108 : (t273 == ((rd_T34 t229 0).f0) && (t274 == ((rd_T34 t229 0).f1))) = true
         ·rw [if_pos c108] at H
          have c108b0 : (t273 == ((rd_T34 t229 0).f0) && (t274 == ((rd_T34 t229 0).f1))) = true := c108
          (try (have c108b1 : decide (t273 = ((rd_T34 t229 0).f0) && (t274 == ((rd_T34 t229 0).f1))) = true := by simpa using c108))
          (try (have c108b2 : (t273 == ((rd_T34 t229 0).f0) && (t274 == ((rd_T34 t229 0).f1))) = true := by simpa using c108))
          clear c108
          replace H := Option.bind_eq_some_iff.mp H
          obtain ⟨⟨t275, t276⟩, A1090, H⟩ := H
          replace H : (if (t275 == ((rd_T34 t229 2).f0) && (t276 == ((rd_T34 t229 2).f1))) = true then ((impl_CubicAt.f k1 ((rd_T34 t229 0).f0) ((rd_T34 t229 0).f1) ((rd_T34 t229 1).f0) ((rd_T34 t229 1).f1) ((rd_T34 t229 2).f0) ((rd_T34 t229 2).f1) ((rd_T34 t229 3).f0) ((rd_T34 t229 3).f1) 0).bind fun bt277 => (if (bt277.1 == ((rd_T34 t229 0).f0) && (bt277.2 == ((rd_T34 t229 0).f1))) = true then ((impl_CubicAt.f k1 ((rd_T34 t229 0).f0) ((rd_T34 t229 0).f1) ((rd_T34 t229 1).f0) ((rd_T34 t229 1).f1) ((rd_T34 t229 2).f0) ((rd_T34 t229 2).f1) ((rd_T34 t229 3).f0) ((rd_T34 t229 3).f1) 8).bind fun bt279 => (if (bt279.1 == ((rd_T34 t229 3).f0) && (bt279.2 == ((rd_T34 t229 3).f1))) = true then ((impl_QuadAt.f k1 ((rd_T34 t229 0).f0) ((rd_T34 t229 0).f1) ((rd_T34 t229 1).f0) ((rd_T34 t229 1).f1) ((rd_T34 t229 2).f0) ((rd_T34 t229 2).f1) (-5)).bind fun bt281 => (if (bt281.1 == ((rd_T34 t229 0).f0) && (bt281.2 == ((rd_T34 t229 0).f1))) = true then ((impl_QuadAt.f k1 ((rd_T34 t229 0).f0) ((rd_T34 t229 0).f1) ((rd_T34 t229 0).f0) ((rd_T34 t229 0).f1) ((rd_T34 t229 0).f0) ((rd_T34 t229 0).f1) 2).bind fun bt283 => (some (bt283.1 == ((rd_T34 t229 0).f0) && (bt283.2 == ((rd_T34 t229 0).f1))))) else (some false))) else (some false))) else (some false))) else (some false)) = some r := H
          have A109 := Aside0.mk A1090
          clear A1090
          by_cases c110 : (t275 == ((rd_T34 t229 2).f0) && (t276 == ((rd_T34 t229 2).f1))) = true
          ·rw [if_pos c110] at H
           have c110b0 : (t275 == ((rd_T34 t229 2).f0) && (t276 == ((rd_T34 t229 2).f1))) = true := c110
           (try (have c110b1 : decide (t275 = ((rd_T34 t229 2).f0) && (t276 == ((rd_T34 t229 2).f1))) = true := by simpa using c110))
           (try (have c110b2 : (t275 == ((rd_T34 t229 2).f0) && (t276 == ((rd_T34 t229 2).f1))) = true := by simpa using c110))
           clear c110
           replace H := Option.bind_eq_some_iff.mp H
           obtain ⟨⟨t277, t278⟩, A1110, H⟩ := H
           replace H : (if (t277 == ((rd_T34 t229 0).f0) && (t278 == ((rd_T34 t229 0).f1))) = true then ((impl_CubicAt.f k1 ((rd_T34 t229 0).f0) ((rd_T34 t229 0).f1) ((rd_T34 t229 1).f0) ((rd_T34 t229 1).f1) ((rd_T34 t229 2).f0) ((rd_T34 t229 2).f1) ((rd_T34 t229 3).f0) ((rd_T34 t229 3).f1) 8).bind fun bt279 => (if (bt279.1 == ((rd_T34 t229 3).f0) && (bt279.2 == ((rd_T34 t229 3).f1))) = true then ((impl_QuadAt.f k1 ((rd_T34 t229 0).f0) ((rd_T34 t229 0).f1) ((rd_T34 t229 1).f0) ((rd_T34 t229 1).f1) ((rd_T34 t229 2).f0) ((rd_T34 t229 2).f1) (-5)).bind fun bt281 => (if (bt281.1 == ((rd_T34 t229 0).f0) && (bt281.2 == ((rd_T34 t229 0).f1))) = true then ((impl_QuadAt.f k1 ((rd_T34 t229 0).f0) ((rd_T34 t229 0).f1) ((rd_T34 t229 0).f0) ((rd_T34 t229 0).f1) ((rd_T34 t229 0).f0) ((rd_T34 t229 0).f1) 2).bind fun bt283 => (some (bt283.1 == ((rd_T34 t229 0).f0) && (bt283.2 == ((rd_T34 t229 0).f1))))) else (some false))) else (some false))) else (some false)) = some r := H
           have A111 := Aside0.mk A1110
           clear A1110
           by_cases c112 : (t277 == ((rd_T34 t229 0).f0) && (t278 == ((rd_T34 t229 0).f1))) = true
           ·rw [if_pos c112] at H
            have c112b0 : (t277 == ((rd_T34 t229 0).f0) && (t278 == ((rd_T34 t229 0).f1))) = true := c112
            (try (have c112b1 : decide (t277 = ((rd_T34 t229 0).f0) && (t278 == ((rd_T34 t229 0).f1))) = true := by simpa using c112))
            (try (have c112b2 : (t277 == ((rd_T34 t229 0).f0) && (t278 == ((rd_T34 t229 0).f1))) = true := by simpa using c112))
            clear c112
            replace H := Option.bind_eq_some_iff.mp H
            obtain ⟨⟨t279, t280⟩, A1130, H⟩ := H
            replace H : (if (t279 == ((rd_T34 t229 3).f0) && (t280 == ((rd_T34 t229 3).f1))) = true then ((impl_QuadAt.f k1 ((rd_T34 t229 0).f0) ((rd_T34 t229 0).f1) ((rd_T34 t229 1).f0) ((rd_T34 t229 1).f1) ((rd_T34 t229 2).f0) ((rd_T34 t229 2).f1) (-5)).bind fun bt281 => (if (bt281.1 == ((rd_T34 t229 0).f0) && (bt281.2 == ((rd_T34 t229 0).f1))) = true then ((impl_QuadAt.f k1 ((rd_T34 t229 0).f0) ((rd_T34 t229 0).f1) ((rd_T34 t229 0).f0) ((rd_T34 t229 0).f1) ((rd_T34 t229 0).f0) ((rd_T34 t229 0).f1) 2).bind fun bt283 => (some (bt283.1 == ((rd_T34 t229 0).f0) && (bt283.2 == ((rd_T34 t229 0).f1))))) else (some false))) else (some false)) = some r := H
            have A113 := Aside0.mk A1130
            clear A1130
            by_cases c114 : (t279 == ((rd_T34 t229 3).f0) && (t280 == ((rd_T34 t229 3).f1))) = true
            ·rw [if_pos c114] at H
             have c114b0 : (t279 == ((rd_T34 t229 3).f0) && (t280 == ((rd_T34 t229 3).f1))) = true := c114
             (try (have c114b1 : decide (t279 = ((rd_T34 t229 3).f0) && (t280 == ((rd_T34 t229 3).f1))) = true := by simpa using c114))
             (try (have c114b2 : (t279 == ((rd_T34 t229 3).f0) && (t280 == ((rd_T34 t229 3).f1))) = true := by simpa using c114))
             clear c114
             replace H := Option.bind_eq_some_iff.mp H
             obtain ⟨⟨t281, t282⟩, A1150, H⟩ := H
             replace H : (if (t281 == ((rd_T34 t229 0).f0) && (t282 == ((rd_T34 t229 0).f1))) = true then ((impl_QuadAt.f k1 ((rd_T34 t229 0).f0) ((rd_T34 t229 0).f1) ((rd_T34 t229 0).f0) ((rd_T34 t229 0).f1) ((rd_T34 t229 0).f0) ((rd_T34 t229 0).f1) 2).bind fun bt283 => (some (bt283.1 == ((rd_T34 t229 0).f0) && (bt283.2 == ((rd_T34 t229 0).f1))))) else (some false)) = some r := H
             have A115 := Aside0.mk A1150
             clear A1150
             by_cases c116 : (t281 == ((rd_T34 t229 0).f0) && (t282 == ((rd_T34 t229 0).f1))) = true
             ·rw [if_pos c116] at H
              have c116b0 : (t281 == ((rd_T34 t229 0).f0) && (t282 == ((rd_T34 t229 0).f1))) = true := c116
              (try (have c116b1 : decide (t281 = ((rd_T34 t229 0).f0) && (t282 == ((rd_T34 t229 0).f1))) = true := by simpa using c116))
              (try (have c116b2 : (t281 == ((rd_T34 t229 0).f0) && (t282 == ((rd_T34 t229 0).f1))) = true := by simpa using c116))
              clear c116
              replace H := Option.bind_eq_some_iff.mp H
              obtain ⟨⟨t283, t284⟩, A1170, H⟩ := H
              replace H : (some (t283 == ((rd_T34 t229 0).f0) && (t284 == ((rd_T34 t229 0).f1)))) = some r := H
              have A117 := Aside0.mk A1170
              clear A1170
              obtain rfl := Option.some.inj H
              try go_wp2
              have n0_ := Aside0.mk (blk_drew BK233.out)
              have n1_ := Aside0.mk (blk_drew BK235.out)
              have n2_ := Aside0.mk (blk_drew BK237.out)
              have n3_ := Aside0.mk (blk_drew BK239.out)
              have n4_ := Aside0.mk (blk_drew BK247.out)
              have n5_ := Aside0.mk (blk_drew BK255.out)
              have n6_ := Aside0.mk (below_drew1 HB.out)
              clear BK233
              clear BK235
              clear BK237
              clear BK239
              clear BK247
              clear BK255
              clear HB
              have BK233 := n0_
              have BK235 := n1_
              have BK237 := n2_
              have BK239 := n3_
              have BK247 := n4_
              have BK255 := n5_
              have HB := n6_
              clear n0_ n1_ n2_ n3_ n4_ n5_ n6_
              refine start_ (n := 49) (S := fun w' => w'.cell? ⟨gb233, 0, none⟩ = some (.int .i64 ((rd_T34 t229 0).f0)) ∧ w'.cell? ⟨gb233, 1, none⟩ = some (.int .i64 ((rd_T34 t229 0).f1)) ∧ w'.cell? ⟨gb235, 0, none⟩ = some (.int .i64 ((rd_T34 t229 1).f0)) ∧ w'.cell? ⟨gb235, 1, none⟩ = some (.int .i64 ((rd_T34 t229 1).f1)) ∧ w'.cell? ⟨gb237, 0, none⟩ = some (.int .i64 ((rd_T34 t229 2).f0)) ∧ w'.cell? ⟨gb237, 1, none⟩ = some (.int .i64 ((rd_T34 t229 2).f1)) ∧ w'.cell? ⟨gb239, 0, none⟩ = some (.int .i64 ((rd_T34 t229 3).f0)) ∧ w'.cell? ⟨gb239, 1, none⟩ = some (.int .i64 ((rd_T34 t229 3).f1))) (ds := []) #[false, false, false, false, false, false, false, false, false, false, false, false, false, false, false, false, false, false, false, false, false, false, false, false, false, false, false, false, false, false, false, false, false, false, false, false, false, false, false, false, false, false, false, false, false, false, false, false, false] (by kernel_rfl) rfl rfl ⟨(blk_cell BK233.out 0).trans rfl, (blk_cell BK233.out 1).trans rfl, (blk_cell BK235.out 0).trans rfl, (blk_cell BK235.out 1).trans rfl, (blk_cell BK237.out 0).trans rfl, (blk_cell BK237.out 1).trans rfl, (blk_cell BK239.out 0).trans rfl, (blk_cell BK239.out 1).trans rfl⟩ (fun hHeld => ?_); refine with_tabW laws_FnCurves.tab15 laws_FnCurves.bits15 (fun HT_ HW_ => ?_)
              generalize wr.drew = w118 at BK233 BK235 BK237 BK239 BK247 BK255 HB hHeld ⊢
              refine take_ (i := 0) (N := some 80) (v := ?_) (a' := ?_) #[true, false, false, false, false, false, false, false, false, false, false, false, false, false, false, false, false, false, false, false, false, false, false, false, false, false, false, false, false, false, false, false, false, false, false, false, false, false, false, false, false, false, false, false, false, false, false, false, false] rfl rfl (take_ofW HT_.out HW_.out (by kernel_rfl)) (fun _ _ _ h => h) (Or.inl ⟨by rfl, ?_⟩) hHeld ?_ ?_
              rotate_left
              ·rintro w' ⟨s0, s1, s2, s3, s4, s5, s6, s7⟩
               go_simp
               with_reducible rfl
              rotate_left
              ·simp only [Act.put, List.setIfInBounds_toArray, List.set_cons_zero, List.set_cons_succ, i64_w, i32_w]
               rfl
              refine take_ (i := 1) (N := some 81) (v := ?_) (a' := ?_) #[true, true, false, false, false, false, false, false, false, false, false, false, false, false, false, false, false, false, false, false, false, false, false, false, false, false, false, false, false, false, false, false, false, false, false, false, false, false, false, false, false, false, false, false, false, false, false, false, false] rfl rfl (take_ofW HT_.out HW_.out (by kernel_rfl)) (fun _ _ _ h => h) (Or.inl ⟨by rfl, ?_⟩) hHeld ?_ ?_
              rotate_left
              ·rintro w' ⟨s0, s1, s2, s3, s4, s5, s6, s7⟩
               go_simp
               with_reducible rfl
              rotate_left
              ·simp only [Act.put, List.setIfInBounds_toArray, List.set_cons_zero, List.set_cons_succ, i64_w, i32_w]
               rfl
              refine take_ (i := 2) (N := some 82) (v := ?_) (a' := ?_) #[true, true, true, false, false, false, false, false, false, false, false, false, false, false, false, false, false, false, false, false, false, false, false, false, false, false, false, false, false, false, false, false, false, false, false, false, false, false, false, false, false, false, false, false, false, false, false, false, false] rfl rfl (take_ofW HT_.out HW_.out (by kernel_rfl)) (fun _ _ _ h => h) (Or.inl ⟨by rfl, ?_⟩) hHeld ?_ ?_
              rotate_left
              ·rintro w' ⟨s0, s1, s2, s3, s4, s5, s6, s7⟩
               go_simp
               with_reducible rfl
              rotate_left
              ·simp only [Act.put, List.setIfInBounds_toArray, List.set_cons_zero, List.set_cons_succ, i64_w, i32_w]
               rfl
              refine take_ (i := 4) (N := some 84) (v := ?_) (a' := ?_) #[true, true, true, false, true, false, false, false, false, false, false, false, false, false, false, false, false, false, false, false, false, false, false, false, false, false, false, false, false, false, false, false, false, false, false, false, false, false, false, false, false, false, false, false, false, false, false, false, false] rfl rfl (take_ofW HT_.out HW_.out (by kernel_rfl)) (fun _ _ _ h => h) (Or.inl ⟨by rfl, ?_⟩) hHeld ?_ ?_
              rotate_left
              ·rintro w' ⟨s0, s1, s2, s3, s4, s5, s6, s7⟩
               go_simp
               with_reducible rfl
              rotate_left
              ·simp only [Act.put, List.setIfInBounds_toArray, List.set_cons_zero, List.set_cons_succ, i64_w, i32_w]
               rfl
              refine one_ (i := 3) (N := some 83) #[true, true, true, true, true, false, false, false, false, false, false, false, false, false, false, false, false, false, false, false, false, false, false, false, false, false, false, false, false, false, false, false, false, false, false, false, false, false, false, false, false, false, false, false, false, false, false, false, false] rfl rfl (one_of HT_.out (by kernel_rfl)) (by decide) (fun K hK => ?_)
              refine goes_ Try.func30 (by kernel_rfl) rfl #[.agg #[.int .i64 ((rd_T34 t229 0).f0), .int .i64 ((rd_T34 t229 0).f1)], .agg #[.int .i64 ((rd_T34 t229 1).f0), .int .i64 ((rd_T34 t229 1).f1)], .agg #[.int .i64 ((rd_T34 t229 2).f0), .int .i64 ((rd_T34 t229 2).f1)], .int .i64 0] (by rfl) rfl rfl (by (try simp only [List.map_toArray, List.map_cons, List.map_nil]); first | done | rfl | (simp only [List.length_drop, List.length_take]; rfl)) ?_
              with_reducible refine (impl_QuadAt.calls k1 ((rd_T34 t229 0).f0) ((rd_T34 t229 0).f1) ((rd_T34 t229 1).f0) ((rd_T34 t229 1).f1) ((rd_T34 t229 2).f0) ((rd_T34 t229 2).f1) 0 t273 t274 _ A107.out).mono ?_
              rintro e w119 ⟨rfl, hb⟩
              refine ⟨_, rfl, ?_⟩
              have n0_ := Aside0.mk (blk_below (g := gb233) (o := .cells #[.int .i64 ((rd_T34 t229 0).f0), .int .i64 ((rd_T34 t229 0).f1)] 34 (0, 0)) (by (with_reducible repeat (first | refine blk_drewN ?_ _ | refine blk_drew ?_ | refine blk_alloc ?_ _)); exact BK233.out) hb)
              have n1_ := Aside0.mk (blk_below (g := gb235) (o := .cells #[.int .i64 ((rd_T34 t229 1).f0), .int .i64 ((rd_T34 t229 1).f1)] 34 (0, 0)) (by (with_reducible repeat (first | refine blk_drewN ?_ _ | refine blk_drew ?_ | refine blk_alloc ?_ _)); exact BK235.out) hb)
              have n2_ := Aside0.mk (blk_below (g := gb237) (o := .cells #[.int .i64 ((rd_T34 t229 2).f0), .int .i64 ((rd_T34 t229 2).f1)] 34 (0, 0)) (by (with_reducible repeat (first | refine blk_drewN ?_ _ | refine blk_drew ?_ | refine blk_alloc ?_ _)); exact BK237.out) hb)
              have n3_ := Aside0.mk (blk_below (g := gb239) (o := .cells #[.int .i64 ((rd_T34 t229 3).f0), .int .i64 ((rd_T34 t229 3).f1)] 34 (0, 0)) (by (with_reducible repeat (first | refine blk_drewN ?_ _ | refine blk_drew ?_ | refine blk_alloc ?_ _)); exact BK239.out) hb)
              have n4_ := Aside0.mk (blk_below (g := gb247) (o := .cells #[.int .i64 t243, .int .i64 t244, .int .i64 t245, .int .i64 t246] 26 (0, 0)) (by (with_reducible repeat (first | refine blk_drewN ?_ _ | refine blk_drew ?_ | refine blk_alloc ?_ _)); exact BK247.out) hb)
              have n5_ := Aside0.mk (blk_below (g := gb255) (o := .cells #[.int .i64 t251, .int .i64 t252, .int .i64 t253, .int .i64 t254] 26 (0, 0)) (by (with_reducible repeat (first | refine blk_drewN ?_ _ | refine blk_drew ?_ | refine blk_alloc ?_ _)); exact BK255.out) hb)
              have n6_ := Aside0.mk (below_step (by repeat (first | (with_reducible first | exact HB.out | apply below_alloc | apply pw_below_drewN | apply below_drew1 | refine below_set ?_ GE233.out | refine below_set ?_ GE235.out | refine below_set ?_ GE237.out | refine below_set ?_ GE239.out | refine below_set ?_ GE247.out | refine below_set ?_ GE255.out) | exact HB.out)) hb)
              clear BK233
              clear BK235
              clear BK237
              clear BK239
              clear BK247
              clear BK255
              clear HB
              have BK233 := n0_
              have BK235 := n1_
              have BK237 := n2_
              have BK239 := n3_
              have BK247 := n4_
              have BK255 := n5_
              have HB := n6_
              clear n0_ n1_ n2_ n3_ n4_ n5_ n6_
              (try clear hb)
              (try clear hb2)
              (try clear hk)
              (try clear hi)
              refine hK.out _ _ ⟨(blk_cell BK233.out 0).trans rfl, (blk_cell BK233.out 1).trans rfl, (blk_cell BK235.out 0).trans rfl, (blk_cell BK235.out 1).trans rfl, (blk_cell BK237.out 0).trans rfl, (blk_cell BK237.out 1).trans rfl, (blk_cell BK239.out 0).trans rfl, (blk_cell BK239.out 1).trans rfl⟩ (fun hHeld => ?_)
              clear hK K
              refine norm_ (a' := ?_) ?_ ?_
              rotate_left
              ·show Act.put _ (some 83) _ = _
               simp only [Act.put, List.setIfInBounds_toArray, List.set_cons_zero, List.set_cons_succ, i64_w, i32_w]
               rfl
              refine pure_ (i := 5) (N := some 85) (v := ?_) (a' := ?_) #[true, true, true, true, true, true, false, false, false, false, false, false, false, false, false, false, false, false, false, false, false, false, false, false, false, false, false, false, false, false, false, false, false, false, false, false, false, false, false, false, false, false, false, false, false, false, false, false, false] rfl rfl (any_of HT_.out (by kernel_rfl)) (fun _ _ _ h => h) (Or.inl ⟨by rfl, ?_⟩) ?_ ?_
              rotate_left
              ·intro w'
               go_simp
               with_reducible rfl
              rotate_left
              ·simp only [Act.put, List.setIfInBounds_toArray, List.set_cons_zero, List.set_cons_succ, i64_w, i32_w]
               rfl
              refine pure_ (i := 6) (N := some 86) (v := ?_) (a' := ?_) #[true, true, true, true, true, true, true, false, false, false, false, false, false, false, false, false, false, false, false, false, false, false, false, false, false, false, false, false, false, false, false, false, false, false, false, false, false, false, false, false, false, false, false, false, false, false, false, false, false] rfl rfl (any_of HT_.out (by kernel_rfl)) (fun _ _ _ h => h) (Or.inl ⟨by rfl, ?_⟩) ?_ ?_
              rotate_left
              ·intro w'
               go_simp
               with_reducible rfl
              rotate_left
              ·simp only [Act.put, List.setIfInBounds_toArray, List.set_cons_zero, List.set_cons_succ, i64_w, i32_w]
               rfl
              refine take_ (i := 7) (N := some 87) (v := ?_) (a' := ?_) #[true, true, true, true, true, true, true, true, false, false, false, false, false, false, false, false, false, false, false, false, false, false, false, false, false, false, false, false, false, false, false, false, false, false, false, false, false, false, false, false, false, false, false, false, false, false, false, false, false] rfl rfl (take_ofW HT_.out HW_.out (by kernel_rfl)) (fun _ _ _ h => h) (Or.inl ⟨by rfl, ?_⟩) hHeld ?_ ?_
              rotate_left
              ·rintro w' ⟨s0, s1, s2, s3, s4, s5, s6, s7⟩
               go_simp
               with_reducible rfl
              rotate_left
              ·simp only [Act.put, List.setIfInBounds_toArray, List.set_cons_zero, List.set_cons_succ, i64_w, i32_w]
               rfl
              refine take_ (i := 8) (N := some 88) (v := ?_) (a' := ?_) #[true, true, true, true, true, true, true, true, true, false, false, false, false, false, false, false, false, false, false, false, false, false, false, false, false, false, false, false, false, false, false, false, false, false, false, false, false, false, false, false, false, false, false, false, false, false, false, false, false] rfl rfl (take_ofW HT_.out HW_.out (by kernel_rfl)) (fun _ _ _ h => h) (Or.inl ⟨by rfl, ?_⟩) hHeld ?_ ?_
              rotate_left
              ·rintro w' ⟨s0, s1, s2, s3, s4, s5, s6, s7⟩
               go_simp
               with_reducible rfl
              rotate_left
              ·simp only [Act.put, List.setIfInBounds_toArray, List.set_cons_zero, List.set_cons_succ, i64_w, i32_w]
               rfl
              refine take_ (i := 9) (N := some 89) (v := ?_) (a' := ?_) #[true, true, true, true, true, true, true, true, true, true, false, false, false, false, false, false, false, false, false, false, false, false, false, false, false, false, false, false, false, false, false, false, false, false, false, false, false, false, false, false, false, false, false, false, false, false, false, false, false] rfl rfl (take_ofW HT_.out HW_.out (by kernel_rfl)) (fun _ _ _ h => h) (Or.inl ⟨by rfl, ?_⟩) hHeld ?_ ?_
              rotate_left
              ·rintro w' ⟨s0, s1, s2, s3, s4, s5, s6, s7⟩
               go_simp
               with_reducible rfl
              rotate_left
              ·simp only [Act.put, List.setIfInBounds_toArray, List.set_cons_zero, List.set_cons_succ, i64_w, i32_w]
               rfl
              refine take_ (i := 11) (N := some 91) (v := ?_) (a' := ?_) #[true, true, true, true, true, true, true, true, true, true, false, true, false, false, false, false, false, false, false, false, false, false, false, false, false, false, false, false, false, false, false, false, false, false, false, false, false, false, false, false, false, false, false, false, false, false, false, false, false] rfl rfl (take_ofW HT_.out HW_.out (by kernel_rfl)) (fun _ _ _ h => h) (Or.inl ⟨by rfl, ?_⟩) hHeld ?_ ?_
              rotate_left
              ·rintro w' ⟨s0, s1, s2, s3, s4, s5, s6, s7⟩
               go_simp
               with_reducible rfl
              rotate_left
              ·simp only [Act.put, List.setIfInBounds_toArray, List.set_cons_zero, List.set_cons_succ, i64_w, i32_w]
               rfl
              refine one_ (i := 10) (N := some 90) #[true, true, true, true, true, true, true, true, true, true, true, true, false, false, false, false, false, false, false, false, false, false, false, false, false, false, false, false, false, false, false, false, false, false, false, false, false, false, false, false, false, false, false, false, false, false, false, false, false] rfl rfl (one_of HT_.out (by kernel_rfl)) (by decide) (fun K hK => ?_)
              refine goes_ Try.func30 (by kernel_rfl) rfl #[.agg #[.int .i64 ((rd_T34 t229 0).f0), .int .i64 ((rd_T34 t229 0).f1)], .agg #[.int .i64 ((rd_T34 t229 1).f0), .int .i64 ((rd_T34 t229 1).f1)], .agg #[.int .i64 ((rd_T34 t229 2).f0), .int .i64 ((rd_T34 t229 2).f1)], .int .i64 4] (by rfl) rfl rfl (by (try simp only [List.map_toArray, List.map_cons, List.map_nil]); first | done | rfl | (simp only [List.length_drop, List.length_take]; rfl)) ?_
              with_reducible refine (impl_QuadAt.calls k1 ((rd_T34 t229 0).f0) ((rd_T34 t229 0).f1) ((rd_T34 t229 1).f0) ((rd_T34 t229 1).f1) ((rd_T34 t229 2).f0) ((rd_T34 t229 2).f1) 4 t275 t276 _ A109.out).mono ?_
              rintro e w120 ⟨rfl, hb⟩
              refine ⟨_, rfl, ?_⟩
              have n0_ := Aside0.mk (blk_below (g := gb233) (o := .cells #[.int .i64 ((rd_T34 t229 0).f0), .int .i64 ((rd_T34 t229 0).f1)] 34 (0, 0)) (by (with_reducible repeat (first | refine blk_drewN ?_ _ | refine blk_drew ?_ | refine blk_alloc ?_ _)); exact BK233.out) hb)
              have n1_ := Aside0.mk (blk_below (g := gb235) (o := .cells #[.int .i64 ((rd_T34 t229 1).f0), .int .i64 ((rd_T34 t229 1).f1)] 34 (0, 0)) (by (with_reducible repeat (first | refine blk_drewN ?_ _ | refine blk_drew ?_ | refine blk_alloc ?_ _)); exact BK235.out) hb)
              have n2_ := Aside0.mk (blk_below (g := gb237) (o := .cells #[.int .i64 ((rd_T34 t229 2).f0), .int .i64 ((rd_T34 t229 2).f1)] 34 (0, 0)) (by (with_reducible repeat (first | refine blk_drewN ?_ _ | refine blk_drew ?_ | refine blk_alloc ?_ _)); exact BK237.out) hb)
              have n3_ := Aside0.mk (blk_below (g := gb239) (o := .cells #[.int .i64 ((rd_T34 t229 3).f0), .int .i64 ((rd_T34 t229 3).f1)] 34 (0, 0)) (by (with_reducible repeat (first | refine blk_drewN ?_ _ | refine blk_drew ?_ | refine blk_alloc ?_ _)); exact BK239.out) hb)
              have n4_ := Aside0.mk (blk_below (g := gb247) (o := .cells #[.int .i64 t243, .int .i64 t244, .int .i64 t245, .int .i64 t246] 26 (0, 0)) (by (with_reducible repeat (first | refine blk_drewN ?_ _ | refine blk_drew ?_ | refine blk_alloc ?_ _)); exact BK247.out) hb)
              have n5_ := Aside0.mk (blk_below (g := gb255) (o := .cells #[.int .i64 t251, .int .i64 t252, .int .i64 t253, .int .i64 t254] 26 (0, 0)) (by (with_reducible repeat (first | refine blk_drewN ?_ _ | refine blk_drew ?_ | refine blk_alloc ?_ _)); exact BK255.out) hb)
              have n6_ := Aside0.mk (below_step (by repeat (first | (with_reducible first | exact HB.out | apply below_alloc | apply pw_below_drewN | apply below_drew1 | refine below_set ?_ GE233.out | refine below_set ?_ GE235.out | refine below_set ?_ GE237.out | refine below_set ?_ GE239.out | refine below_set ?_ GE247.out | refine below_set ?_ GE255.out) | exact HB.out)) hb)
              clear BK233
              clear BK235
              clear BK237
              clear BK239
              clear BK247
              clear BK255
              clear HB
              have BK233 := n0_
              have BK235 := n1_
              have BK237 := n2_
              have BK239 := n3_
              have BK247 := n4_
              have BK255 := n5_
              have HB := n6_
              clear n0_ n1_ n2_ n3_ n4_ n5_ n6_
              (try clear hb)
              (try clear hb2)
              (try clear hk)
              (try clear hi)
              refine hK.out _ _ ⟨(blk_cell BK233.out 0).trans rfl, (blk_cell BK233.out 1).trans rfl, (blk_cell BK235.out 0).trans rfl, (blk_cell BK235.out 1).trans rfl, (blk_cell BK237.out 0).trans rfl, (blk_cell BK237.out 1).trans rfl, (blk_cell BK239.out 0).trans rfl, (blk_cell BK239.out 1).trans rfl⟩ (fun hHeld => ?_)
              clear hK K
              refine norm_ (a' := ?_) ?_ ?_
              rotate_left
              ·show Act.put _ (some 90) _ = _
               simp only [Act.put, List.setIfInBounds_toArray, List.set_cons_zero, List.set_cons_succ, i64_w, i32_w]
               rfl
              refine pure_ (i := 12) (N := some 92) (v := ?_) (a' := ?_) #[true, true, true, true, true, true, true, true, true, true, true, true, true, false, false, false, false, false, false, false, false, false, false, false, false, false, false, false, false, false, false, false, false, false, false, false, false, false, false, false, false, false, false, false, false, false, false, false, false] rfl rfl (any_of HT_.out (by kernel_rfl)) (fun _ _ _ h => h) (Or.inl ⟨by rfl, ?_⟩) ?_ ?_
              rotate_left
              ·intro w'
               go_simp
               with_reducible rfl
              rotate_left
              ·simp only [Act.put, List.setIfInBounds_toArray, List.set_cons_zero, List.set_cons_succ, i64_w, i32_w]
               rfl
              refine pure_ (i := 13) (N := some 93) (v := ?_) (a' := ?_) #[true, true, true, true, true, true, true, true, true, true, true, true, true, true, false, false, false, false, false, false, false, false, false, false, false, false, false, false, false, false, false, false, false, false, false, false, false, false, false, false, false, false, false, false, false, false, false, false, false] rfl rfl (any_of HT_.out (by kernel_rfl)) (fun _ _ _ h => h) (Or.inl ⟨by rfl, ?_⟩) ?_ ?_
              rotate_left
              ·intro w'
               go_simp
               with_reducible rfl
              rotate_left
              ·simp only [Act.put, List.setIfInBounds_toArray, List.set_cons_zero, List.set_cons_succ, i64_w, i32_w]
               rfl
              refine pure_ (i := 14) (N := some 94) (v := ?_) (a' := ?_) #[true, true, true, true, true, true, true, true, true, true, true, true, true, true, true, false, false, false, false, false, false, false, false, false, false, false, false, false, false, false, false, false, false, false, false, false, false, false, false, false, false, false, false, false, false, false, false, false, false] rfl rfl (any_of HT_.out (by kernel_rfl)) (fun _ _ _ h => h) (Or.inl ⟨by rfl, ?_⟩) ?_ ?_
              rotate_left
              ·intro w'
               go_simp
               with_reducible rfl
              rotate_left
              ·simp only [Act.put, List.setIfInBounds_toArray, List.set_cons_zero, List.set_cons_succ, i64_w, i32_w]
               rfl
              refine take_ (i := 15) (N := some 95) (v := ?_) (a' := ?_) #[true, true, true, true, true, true, true, true, true, true, true, true, true, true, true, true, false, false, false, false, false, false, false, false, false, false, false, false, false, false, false, false, false, false, false, false, false, false, false, false, false, false, false, false, false, false, false, false, false] rfl rfl (take_ofW HT_.out HW_.out (by kernel_rfl)) (fun _ _ _ h => h) (Or.inl ⟨by rfl, ?_⟩) hHeld ?_ ?_
              rotate_left
              ·rintro w' ⟨s0, s1, s2, s3, s4, s5, s6, s7⟩
               go_simp
               with_reducible rfl
              rotate_left
              ·simp only [Act.put, List.setIfInBounds_toArray, List.set_cons_zero, List.set_cons_succ, i64_w, i32_w]
               rfl
              refine take_ (i := 16) (N := some 96) (v := ?_) (a' := ?_) #[true, true, true, true, true, true, true, true, true, true, true, true, true, true, true, true, true, false, false, false, false, false, false, false, false, false, false, false, false, false, false, false, false, false, false, false, false, false, false, false, false, false, false, false, false, false, false, false, false] rfl rfl (take_ofW HT_.out HW_.out (by kernel_rfl)) (fun _ _ _ h => h) (Or.inl ⟨by rfl, ?_⟩) hHeld ?_ ?_
              rotate_left
              ·rintro w' ⟨s0, s1, s2, s3, s4, s5, s6, s7⟩
               go_simp
               with_reducible rfl
              rotate_left
              ·simp only [Act.put, List.setIfInBounds_toArray, List.set_cons_zero, List.set_cons_succ, i64_w, i32_w]
               rfl
              refine take_ (i := 17) (N := some 97) (v := ?_) (a' := ?_) #[true, true, true, true, true, true, true, true, true, true, true, true, true, true, true, true, true, true, false, false, false, false, false, false, false, false, false, false, false, false, false, false, false, false, false, false, false, false, false, false, false, false, false, false, false, false, false, false, false] rfl rfl (take_ofW HT_.out HW_.out (by kernel_rfl)) (fun _ _ _ h => h) (Or.inl ⟨by rfl, ?_⟩) hHeld ?_ ?_
              rotate_left
              ·rintro w' ⟨s0, s1, s2, s3, s4, s5, s6, s7⟩
               go_simp
               with_reducible rfl
              rotate_left
              ·simp only [Act.put, List.setIfInBounds_toArray, List.set_cons_zero, List.set_cons_succ, i64_w, i32_w]
               rfl
              refine take_ (i := 18) (N := some 98) (v := ?_) (a' := ?_) #[true, true, true, true, true, true, true, true, true, true, true, true, true, true, true, true, true, true, true, false, false, false, false, false, false, false, false, false, false, false, false, false, false, false, false, false, false, false, false, false, false, false, false, false, false, false, false, false, false] rfl rfl (take_ofW HT_.out HW_.out (by kernel_rfl)) (fun _ _ _ h => h) (Or.inl ⟨by rfl, ?_⟩) hHeld ?_ ?_
              rotate_left
              ·rintro w' ⟨s0, s1, s2, s3, s4, s5, s6, s7⟩
               go_simp
               with_reducible rfl
              rotate_left
              ·simp only [Act.put, List.setIfInBounds_toArray, List.set_cons_zero, List.set_cons_succ, i64_w, i32_w]
               rfl
              refine take_ (i := 20) (N := some 100) (v := ?_) (a' := ?_) #[true, true, true, true, true, true, true, true, true, true, true, true, true, true, true, true, true, true, true, false, true, false, false, false, false, false, false, false, false, false, false, false, false, false, false, false, false, false, false, false, false, false, false, false, false, false, false, false, false] rfl rfl (take_ofW HT_.out HW_.out (by kernel_rfl)) (fun _ _ _ h => h) (Or.inl ⟨by rfl, ?_⟩) hHeld ?_ ?_
              rotate_left
              ·rintro w' ⟨s0, s1, s2, s3, s4, s5, s6, s7⟩
               go_simp
               with_reducible rfl
              rotate_left
              ·simp only [Act.put, List.setIfInBounds_toArray, List.set_cons_zero, List.set_cons_succ, i64_w, i32_w]
               rfl
              refine one_ (i := 19) (N := some 99) #[true, true, true, true, true, true, true, true, true, true, true, true, true, true, true, true, true, true, true, true, true, false, false, false, false, false, false, false, false, false, false, false, false, false, false, false, false, false, false, false, false, false, false, false, false, false, false, false, false] rfl rfl (one_of HT_.out (by kernel_rfl)) (by decide) (fun K hK => ?_)
              refine goes_ Try.func31 (by kernel_rfl) rfl #[.agg #[.int .i64 ((rd_T34 t229 0).f0), .int .i64 ((rd_T34 t229 0).f1)], .agg #[.int .i64 ((rd_T34 t229 1).f0), .int .i64 ((rd_T34 t229 1).f1)], .agg #[.int .i64 ((rd_T34 t229 2).f0), .int .i64 ((rd_T34 t229 2).f1)], .agg #[.int .i64 ((rd_T34 t229 3).f0), .int .i64 ((rd_T34 t229 3).f1)], .int .i64 0] (by rfl) rfl rfl (by (try simp only [List.map_toArray, List.map_cons, List.map_nil]); first | done | rfl | (simp only [List.length_drop, List.length_take]; rfl)) ?_
              with_reducible refine (impl_CubicAt.calls k1 ((rd_T34 t229 0).f0) ((rd_T34 t229 0).f1) ((rd_T34 t229 1).f0) ((rd_T34 t229 1).f1) ((rd_T34 t229 2).f0) ((rd_T34 t229 2).f1) ((rd_T34 t229 3).f0) ((rd_T34 t229 3).f1) 0 t277 t278 _ A111.out).mono ?_
              rintro e w121 ⟨rfl, hb⟩
              refine ⟨_, rfl, ?_⟩
              have n0_ := Aside0.mk (blk_below (g := gb233) (o := .cells #[.int .i64 ((rd_T34 t229 0).f0), .int .i64 ((rd_T34 t229 0).f1)] 34 (0, 0)) (by (with_reducible repeat (first | refine blk_drewN ?_ _ | refine blk_drew ?_ | refine blk_alloc ?_ _)); exact BK233.out) hb)
              have n1_ := Aside0.mk (blk_below (g := gb235) (o := .cells #[.int .i64 ((rd_T34 t229 1).f0), .int .i64 ((rd_T34 t229 1).f1)] 34 (0, 0)) (by (with_reducible repeat (first | refine blk_drewN ?_ _ | refine blk_drew ?_ | refine blk_alloc ?_ _)); exact BK235.out) hb)
              have n2_ := Aside0.mk (blk_below (g := gb237) (o := .cells #[.int .i64 ((rd_T34 t229 2).f0), .int .i64 ((rd_T34 t229 2).f1)] 34 (0, 0)) (by (with_reducible repeat (first | refine blk_drewN ?_ _ | refine blk_drew ?_ | refine blk_alloc ?_ _)); exact BK237.out) hb)
              have n3_ := Aside0.mk (blk_below (g := gb239) (o := .cells #[.int .i64 ((rd_T34 t229 3).f0), .int .i64 ((rd_T34 t229 3).f1)] 34 (0, 0)) (by (with_reducible repeat (first | refine blk_drewN ?_ _ | refine blk_drew ?_ | refine blk_alloc ?_ _)); exact BK239.out) hb)
              have n4_ := Aside0.mk (blk_below (g := gb247) (o := .cells #[.int .i64 t243, .int .i64 t244, .int .i64 t245, .int .i64 t246] 26 (0, 0)) (by (with_reducible repeat (first | refine blk_drewN ?_ _ | refine blk_drew ?_ | refine blk_alloc ?_ _)); exact BK247.out) hb)
              have n5_ := Aside0.mk (blk_below (g := gb255) (o := .cells #[.int .i64 t251, .int .i64 t252, .int .i64 t253, .int .i64 t254] 26 (0, 0)) (by (with_reducible repeat (first | refine blk_drewN ?_ _ | refine blk_drew ?_ | refine blk_alloc ?_ _)); exact BK255.out) hb)
              have n6_ := Aside0.mk (below_step (by repeat (first | (with_reducible first | exact HB.out | apply below_alloc | apply pw_below_drewN | apply below_drew1 | refine below_set ?_ GE233.out | refine below_set ?_ GE235.out | refine below_set ?_ GE237.out | refine below_set ?_ GE239.out | refine below_set ?_ GE247.out | refine below_set ?_ GE255.out) | exact HB.out)) hb)
              clear BK233
              clear BK235
              clear BK237
              clear BK239
              clear BK247
              clear BK255
              clear HB
              have BK233 := n0_
              have BK235 := n1_
              have BK237 := n2_
              have BK239 := n3_
              have BK247 := n4_
              have BK255 := n5_
              have HB := n6_
              clear n0_ n1_ n2_ n3_ n4_ n5_ n6_
              (try clear hb)
              (try clear hb2)
              (try clear hk)
              (try clear hi)
              refine hK.out _ _ ⟨(blk_cell BK233.out 0).trans rfl, (blk_cell BK233.out 1).trans rfl, (blk_cell BK235.out 0).trans rfl, (blk_cell BK235.out 1).trans rfl, (blk_cell BK237.out 0).trans rfl, (blk_cell BK237.out 1).trans rfl, (blk_cell BK239.out 0).trans rfl, (blk_cell BK239.out 1).trans rfl⟩ (fun hHeld => ?_)
              clear hK K
              refine norm_ (a' := ?_) ?_ ?_
              rotate_left
              ·show Act.put _ (some 99) _ = _
               simp only [Act.put, List.setIfInBounds_toArray, List.set_cons_zero, List.set_cons_succ, i64_w, i32_w]
               rfl
              refine pure_ (i := 21) (N := some 101) (v := ?_) (a' := ?_) #[true, true, true, true, true, true, true, true, true, true, true, true, true, true, true, true, true, true, true, true, true, true, false, false, false, false, false, false, false, false, false, false, false, false, false, false, false, false, false, false, false, false, false, false, false, false, false, false, false] rfl rfl (any_of HT_.out (by kernel_rfl)) (fun _ _ _ h => h) (Or.inl ⟨by rfl, ?_⟩) ?_ ?_
              rotate_left
              ·intro w'
               go_simp
               with_reducible rfl
              rotate_left
              ·simp only [Act.put, List.setIfInBounds_toArray, List.set_cons_zero, List.set_cons_succ, i64_w, i32_w]
               rfl
              refine pure_ (i := 22) (N := some 102) (v := ?_) (a' := ?_) #[true, true, true, true, true, true, true, true, true, true, true, true, true, true, true, true, true, true, true, true, true, true, true, false, false, false, false, false, false, false, false, false, false, false, false, false, false, false, false, false, false, false, false, false, false, false, false, false, false] rfl rfl (any_of HT_.out (by kernel_rfl)) (fun _ _ _ h => h) (Or.inl ⟨by rfl, ?_⟩) ?_ ?_
              rotate_left
              ·intro w'
               go_simp
               with_reducible rfl
              rotate_left
              ·simp only [Act.put, List.setIfInBounds_toArray, List.set_cons_zero, List.set_cons_succ, i64_w, i32_w]
               rfl
              refine pure_ (i := 23) (N := some 103) (v := ?_) (a' := ?_) #[true, true, true, true, true, true, true, true, true, true, true, true, true, true, true, true, true, true, true, true, true, true, true, true, false, false, false, false, false, false, false, false, false, false, false, false, false, false, false, false, false, false, false, false, false, false, false, false, false] rfl rfl (any_of HT_.out (by kernel_rfl)) (fun _ _ _ h => h) (Or.inl ⟨by rfl, ?_⟩) ?_ ?_
              rotate_left
              ·intro w'
               go_simp
               with_reducible rfl
              rotate_left
              ·simp only [Act.put, List.setIfInBounds_toArray, List.set_cons_zero, List.set_cons_succ, i64_w, i32_w]
               rfl
              refine take_ (i := 24) (N := some 104) (v := ?_) (a' := ?_) #[true, true, true, true, true, true, true, true, true, true, true, true, true, true, true, true, true, true, true, true, true, true, true, true, true, false, false, false, false, false, false, false, false, false, false, false, false, false, false, false, false, false, false, false, false, false, false, false, false] rfl rfl (take_ofW HT_.out HW_.out (by kernel_rfl)) (fun _ _ _ h => h) (Or.inl ⟨by rfl, ?_⟩) hHeld ?_ ?_
              rotate_left
              ·rintro w' ⟨s0, s1, s2, s3, s4, s5, s6, s7⟩
               go_simp
               with_reducible rfl
              rotate_left
              ·simp only [Act.put, List.setIfInBounds_toArray, List.set_cons_zero, List.set_cons_succ, i64_w, i32_w]
               rfl
              refine take_ (i := 25) (N := some 105) (v := ?_) (a' := ?_) #[true, true, true, true, true, true, true, true, true, true, true, true, true, true, true, true, true, true, true, true, true, true, true, true, true, true, false, false, false, false, false, false, false, false, false, false, false, false, false, false, false, false, false, false, false, false, false, false, false] rfl rfl (take_ofW HT_.out HW_.out (by kernel_rfl)) (fun _ _ _ h => h) (Or.inl ⟨by rfl, ?_⟩) hHeld ?_ ?_
              rotate_left
              ·rintro w' ⟨s0, s1, s2, s3, s4, s5, s6, s7⟩
               go_simp
               with_reducible rfl
              rotate_left
              ·simp only [Act.put, List.setIfInBounds_toArray, List.set_cons_zero, List.set_cons_succ, i64_w, i32_w]
               rfl
              refine take_ (i := 26) (N := some 106) (v := ?_) (a' := ?_) #[true, true, true, true, true, true, true, true, true, true, true, true, true, true, true, true, true, true, true, true, true, true, true, true, true, true, true, false, false, false, false, false, false, false, false, false, false, false, false, false, false, false, false, false, false, false, false, false, false] rfl rfl (take_ofW HT_.out HW_.out (by kernel_rfl)) (fun _ _ _ h => h) (Or.inl ⟨by rfl, ?_⟩) hHeld ?_ ?_
              rotate_left
              ·rintro w' ⟨s0, s1, s2, s3, s4, s5, s6, s7⟩
               go_simp
               with_reducible rfl
              rotate_left
              ·simp only [Act.put, List.setIfInBounds_toArray, List.set_cons_zero, List.set_cons_succ, i64_w, i32_w]
               rfl
              refine take_ (i := 27) (N := some 107) (v := ?_) (a' := ?_) #[true, true, true, true, true, true, true, true, true, true, true, true, true, true, true, true, true, true, true, true, true, true, true, true, true, true, true, true, false, false, false, false, false, false, false, false, false, false, false, false, false, false, false, false, false, false, false, false, false] rfl rfl (take_ofW HT_.out HW_.out (by kernel_rfl)) (fun _ _ _ h => h) (Or.inl ⟨by rfl, ?_⟩) hHeld ?_ ?_
              rotate_left
              ·rintro w' ⟨s0, s1, s2, s3, s4, s5, s6, s7⟩
               go_simp
               with_reducible rfl
              rotate_left
              ·simp only [Act.put, List.setIfInBounds_toArray, List.set_cons_zero, List.set_cons_succ, i64_w, i32_w]
               rfl
              refine take_ (i := 29) (N := some 109) (v := ?_) (a' := ?_) #[true, true, true, true, true, true, true, true, true, true, true, true, true, true, true, true, true, true, true, true, true, true, true, true, true, true, true, true, false, true, false, false, false, false, false, false, false, false, false, false, false, false, false, false, false, false, false, false, false] rfl rfl (take_ofW HT_.out HW_.out (by kernel_rfl)) (fun _ _ _ h => h) (Or.inl ⟨by rfl, ?_⟩) hHeld ?_ ?_
              rotate_left
              ·rintro w' ⟨s0, s1, s2, s3, s4, s5, s6, s7⟩
               go_simp
               with_reducible rfl
              rotate_left
              ·simp only [Act.put, List.setIfInBounds_toArray, List.set_cons_zero, List.set_cons_succ, i64_w, i32_w]
               rfl
              refine one_ (i := 28) (N := some 108) #[true, true, true, true, true, true, true, true, true, true, true, true, true, true, true, true, true, true, true, true, true, true, true, true, true, true, true, true, true, true, false, false, false, false, false, false, false, false, false, false, false, false, false, false, false, false, false, false, false] rfl rfl (one_of HT_.out (by kernel_rfl)) (by decide) (fun K hK => ?_)
              refine goes_ Try.func31 (by kernel_rfl) rfl #[.agg #[.int .i64 ((rd_T34 t229 0).f0), .int .i64 ((rd_T34 t229 0).f1)], .agg #[.int .i64 ((rd_T34 t229 1).f0), .int .i64 ((rd_T34 t229 1).f1)], .agg #[.int .i64 ((rd_T34 t229 2).f0), .int .i64 ((rd_T34 t229 2).f1)], .agg #[.int .i64 ((rd_T34 t229 3).f0), .int .i64 ((rd_T34 t229 3).f1)], .int .i64 8] (by rfl) rfl rfl (by (try simp only [List.map_toArray, List.map_cons, List.map_nil]); first | done | rfl | (simp only [List.length_drop, List.length_take]; rfl)) ?_
              with_reducible refine (impl_CubicAt.calls k1 ((rd_T34 t229 0).f0) ((rd_T34 t229 0).f1) ((rd_T34 t229 1).f0) ((rd_T34 t229 1).f1) ((rd_T34 t229 2).f0) ((rd_T34 t229 2).f1) ((rd_T34 t229 3).f0) ((rd_T34 t229 3).f1) 8 t279 t280 _ A113.out).mono ?_
              rintro e w122 ⟨rfl, hb⟩
              refine ⟨_, rfl, ?_⟩
              have n0_ := Aside0.mk (blk_below (g := gb233) (o := .cells #[.int .i64 ((rd_T34 t229 0).f0), .int .i64 ((rd_T34 t229 0).f1)] 34 (0, 0)) (by (with_reducible repeat (first | refine blk_drewN ?_ _ | refine blk_drew ?_ | refine blk_alloc ?_ _)); exact BK233.out) hb)
              have n1_ := Aside0.mk (blk_below (g := gb235) (o := .cells #[.int .i64 ((rd_T34 t229 1).f0), .int .i64 ((rd_T34 t229 1).f1)] 34 (0, 0)) (by (with_reducible repeat (first | refine blk_drewN ?_ _ | refine blk_drew ?_ | refine blk_alloc ?_ _)); exact BK235.out) hb)
              have n2_ := Aside0.mk (blk_below (g := gb237) (o := .cells #[.int .i64 ((rd_T34 t229 2).f0), .int .i64 ((rd_T34 t229 2).f1)] 34 (0, 0)) (by (with_reducible repeat (first | refine blk_drewN ?_ _ | refine blk_drew ?_ | refine blk_alloc ?_ _)); exact BK237.out) hb)
              have n3_ := Aside0.mk (blk_below (g := gb239) (o := .cells #[.int .i64 ((rd_T34 t229 3).f0), .int .i64 ((rd_T34 t229 3).f1)] 34 (0, 0)) (by (with_reducible repeat (first | refine blk_drewN ?_ _ | refine blk_drew ?_ | refine blk_alloc ?_ _)); exact BK239.out) hb)
              have n4_ := Aside0.mk (blk_below (g := gb247) (o := .cells #[.int .i64 t243, .int .i64 t244, .int .i64 t245, .int .i64 t246] 26 (0, 0)) (by (with_reducible repeat (first | refine blk_drewN ?_ _ | refine blk_drew ?_ | refine blk_alloc ?_ _)); exact BK247.out) hb)
              have n5_ := Aside0.mk (blk_below (g := gb255) (o := .cells #[.int .i64 t251, .int .i64 t252, .int .i64 t253, .int .i64 t254] 26 (0, 0)) (by (with_reducible repeat (first | refine blk_drewN ?_ _ | refine blk_drew ?_ | refine blk_alloc ?_ _)); exact BK255.out) hb)
              have n6_ := Aside0.mk (below_step (by repeat (first | (with_reducible first | exact HB.out | apply below_alloc | apply pw_below_drewN | apply below_drew1 | refine below_set ?_ GE233.out | refine below_set ?_ GE235.out | refine below_set ?_ GE237.out | refine below_set ?_ GE239.out | refine below_set ?_ GE247.out | refine below_set ?_ GE255.out) | exact HB.out)) hb)
              clear BK233
              clear BK235
              clear BK237
              clear BK239
              clear BK247
              clear BK255
              clear HB
              have BK233 := n0_
              have BK235 := n1_
              have BK237 := n2_
              have BK239 := n3_
              have BK247 := n4_
              have BK255 := n5_
              have HB := n6_
              clear n0_ n1_ n2_ n3_ n4_ n5_ n6_
              (try clear hb)
              (try clear hb2)
              (try clear hk)
              (try clear hi)
              refine hK.out _ _ ⟨(blk_cell BK233.out 0).trans rfl, (blk_cell BK233.out 1).trans rfl, (blk_cell BK235.out 0).trans rfl, (blk_cell BK235.out 1).trans rfl, (blk_cell BK237.out 0).trans rfl, (blk_cell BK237.out 1).trans rfl, (blk_cell BK239.out 0).trans rfl, (blk_cell BK239.out 1).trans rfl⟩ (fun hHeld => ?_)
              clear hK K
              refine norm_ (a' := ?_) ?_ ?_
              rotate_left
              ·show Act.put _ (some 108) _ = _
               simp only [Act.put, List.setIfInBounds_toArray, List.set_cons_zero, List.set_cons_succ, i64_w, i32_w]
               rfl
              refine pure_ (i := 30) (N := some 110) (v := ?_) (a' := ?_) #[true, true, true, true, true, true, true, true, true, true, true, true, true, true, true, true, true, true, true, true, true, true, true, true, true, true, true, true, true, true, true, false, false, false, false, false, false, false, false, false, false, false, false, false, false, false, false, false, false] rfl rfl (any_of HT_.out (by kernel_rfl)) (fun _ _ _ h => h) (Or.inl ⟨by rfl, ?_⟩) ?_ ?_
              rotate_left
              ·intro w'
               go_simp
               with_reducible rfl
              rotate_left
              ·simp only [Act.put, List.setIfInBounds_toArray, List.set_cons_zero, List.set_cons_succ, i64_w, i32_w]
               rfl
              refine pure_ (i := 31) (N := some 111) (v := ?_) (a' := ?_) #[true, true, true, true, true, true, true, true, true, true, true, true, true, true, true, true, true, true, true, true, true, true, true, true, true, true, true, true, true, true, true, true, false, false, false, false, false, false, false, false, false, false, false, false, false, false, false, false, false] rfl rfl (any_of HT_.out (by kernel_rfl)) (fun _ _ _ h => h) (Or.inl ⟨by rfl, ?_⟩) ?_ ?_
              rotate_left
              ·intro w'
               go_simp
               with_reducible rfl
              rotate_left
              ·simp only [Act.put, List.setIfInBounds_toArray, List.set_cons_zero, List.set_cons_succ, i64_w, i32_w]
               rfl
              refine pure_ (i := 32) (N := some 112) (v := ?_) (a' := ?_) #[true, true, true, true, true, true, true, true, true, true, true, true, true, true, true, true, true, true, true, true, true, true, true, true, true, true, true, true, true, true, true, true, true, false, false, false, false, false, false, false, false, false, false, false, false, false, false, false, false] rfl rfl (any_of HT_.out (by kernel_rfl)) (fun _ _ _ h => h) (Or.inl ⟨by rfl, ?_⟩) ?_ ?_
              rotate_left
              ·intro w'
               go_simp
               with_reducible rfl
              rotate_left
              ·simp only [Act.put, List.setIfInBounds_toArray, List.set_cons_zero, List.set_cons_succ, i64_w, i32_w]
               rfl
              refine take_ (i := 33) (N := some 113) (v := ?_) (a' := ?_) #[true, true, true, true, true, true, true, true, true, true, true, true, true, true, true, true, true, true, true, true, true, true, true, true, true, true, true, true, true, true, true, true, true, true, false, false, false, false, false, false, false, false, false, false, false, false, false, false, false] rfl rfl (take_ofW HT_.out HW_.out (by kernel_rfl)) (fun _ _ _ h => h) (Or.inl ⟨by rfl, ?_⟩) hHeld ?_ ?_
              rotate_left
              ·rintro w' ⟨s0, s1, s2, s3, s4, s5, s6, s7⟩
               go_simp
               with_reducible rfl
              rotate_left
              ·simp only [Act.put, List.setIfInBounds_toArray, List.set_cons_zero, List.set_cons_succ, i64_w, i32_w]
               rfl
              refine take_ (i := 34) (N := some 114) (v := ?_) (a' := ?_) #[true, true, true, true, true, true, true, true, true, true, true, true, true, true, true, true, true, true, true, true, true, true, true, true, true, true, true, true, true, true, true, true, true, true, true, false, false, false, false, false, false, false, false, false, false, false, false, false, false] rfl rfl (take_ofW HT_.out HW_.out (by kernel_rfl)) (fun _ _ _ h => h) (Or.inl ⟨by rfl, ?_⟩) hHeld ?_ ?_
              rotate_left
              ·rintro w' ⟨s0, s1, s2, s3, s4, s5, s6, s7⟩
               go_simp
               with_reducible rfl
              rotate_left
              ·simp only [Act.put, List.setIfInBounds_toArray, List.set_cons_zero, List.set_cons_succ, i64_w, i32_w]
               rfl
              refine take_ (i := 35) (N := some 115) (v := ?_) (a' := ?_) #[true, true, true, true, true, true, true, true, true, true, true, true, true, true, true, true, true, true, true, true, true, true, true, true, true, true, true, true, true, true, true, true, true, true, true, true, false, false, false, false, false, false, false, false, false, false, false, false, false] rfl rfl (take_ofW HT_.out HW_.out (by kernel_rfl)) (fun _ _ _ h => h) (Or.inl ⟨by rfl, ?_⟩) hHeld ?_ ?_
              rotate_left
              ·rintro w' ⟨s0, s1, s2, s3, s4, s5, s6, s7⟩
               go_simp
               with_reducible rfl
              rotate_left
              ·simp only [Act.put, List.setIfInBounds_toArray, List.set_cons_zero, List.set_cons_succ, i64_w, i32_w]
               rfl
              refine take_ (i := 37) (N := some 117) (v := ?_) (a' := ?_) #[true, true, true, true, true, true, true, true, true, true, true, true, true, true, true, true, true, true, true, true, true, true, true, true, true, true, true, true, true, true, true, true, true, true, true, true, false, true, false, false, false, false, false, false, false, false, false, false, false] rfl rfl (take_ofW HT_.out HW_.out (by kernel_rfl)) (fun _ _ _ h => h) (Or.inl ⟨by rfl, ?_⟩) hHeld ?_ ?_
              rotate_left
              ·rintro w' ⟨s0, s1, s2, s3, s4, s5, s6, s7⟩
               go_simp
               with_reducible rfl
              rotate_left
              ·simp only [Act.put, List.setIfInBounds_toArray, List.set_cons_zero, List.set_cons_succ, i64_w, i32_w]
               rfl
              refine one_ (i := 36) (N := some 116) #[true, true, true, true, true, true, true, true, true, true, true, true, true, true, true, true, true, true, true, true, true, true, true, true, true, true, true, true, true, true, true, true, true, true, true, true, true, true, false, false, false, false, false, false, false, false, false, false, false] rfl rfl (one_of HT_.out (by kernel_rfl)) (by decide) (fun K hK => ?_)
              refine goes_ Try.func30 (by kernel_rfl) rfl #[.agg #[.int .i64 ((rd_T34 t229 0).f0), .int .i64 ((rd_T34 t229 0).f1)], .agg #[.int .i64 ((rd_T34 t229 1).f0), .int .i64 ((rd_T34 t229 1).f1)], .agg #[.int .i64 ((rd_T34 t229 2).f0), .int .i64 ((rd_T34 t229 2).f1)], .int .i64 (-5)] (by rfl) rfl rfl (by (try simp only [List.map_toArray, List.map_cons, List.map_nil]); first | done | rfl | (simp only [List.length_drop, List.length_take]; rfl)) ?_
              with_reducible refine (impl_QuadAt.calls k1 ((rd_T34 t229 0).f0) ((rd_T34 t229 0).f1) ((rd_T34 t229 1).f0) ((rd_T34 t229 1).f1) ((rd_T34 t229 2).f0) ((rd_T34 t229 2).f1) (-5) t281 t282 _ A115.out).mono ?_
              rintro e w123 ⟨rfl, hb⟩
              refine ⟨_, rfl, ?_⟩
              have n0_ := Aside0.mk (blk_below (g := gb233) (o := .cells #[.int .i64 ((rd_T34 t229 0).f0), .int .i64 ((rd_T34 t229 0).f1)] 34 (0, 0)) (by (with_reducible repeat (first | refine blk_drewN ?_ _ | refine blk_drew ?_ | refine blk_alloc ?_ _)); exact BK233.out) hb)
              have n1_ := Aside0.mk (blk_below (g := gb235) (o := .cells #[.int .i64 ((rd_T34 t229 1).f0), .int .i64 ((rd_T34 t229 1).f1)] 34 (0, 0)) (by (with_reducible repeat (first | refine blk_drewN ?_ _ | refine blk_drew ?_ | refine blk_alloc ?_ _)); exact BK235.out) hb)
              have n2_ := Aside0.mk (blk_below (g := gb237) (o := .cells #[.int .i64 ((rd_T34 t229 2).f0), .int .i64 ((rd_T34 t229 2).f1)] 34 (0, 0)) (by (with_reducible repeat (first | refine blk_drewN ?_ _ | refine blk_drew ?_ | refine blk_alloc ?_ _)); exact BK237.out) hb)
              have n3_ := Aside0.mk (blk_below (g := gb239) (o := .cells #[.int .i64 ((rd_T34 t229 3).f0), .int .i64 ((rd_T34 t229 3).f1)] 34 (0, 0)) (by (with_reducible repeat (first | refine blk_drewN ?_ _ | refine blk_drew ?_ | refine blk_alloc ?_ _)); exact BK239.out) hb)
              have n4_ := Aside0.mk (blk_below (g := gb247) (o := .cells #[.int .i64 t243, .int .i64 t244, .int .i64 t245, .int .i64 t246] 26 (0, 0)) (by (with_reducible repeat (first | refine blk_drewN ?_ _ | refine blk_drew ?_ | refine blk_alloc ?_ _)); exact BK247.out) hb)
              have n5_ := Aside0.mk (blk_below (g := gb255) (o := .cells #[.int .i64 t251, .int .i64 t252, .int .i64 t253, .int .i64 t254] 26 (0, 0)) (by (with_reducible repeat (first | refine blk_drewN ?_ _ | refine blk_drew ?_ | refine blk_alloc ?_ _)); exact BK255.out) hb)
              have n6_ := Aside0.mk (below_step (by repeat (first | (with_reducible first | exact HB.out | apply below_alloc | apply pw_below_drewN | apply below_drew1 | refine below_set ?_ GE233.out | refine below_set ?_ GE235.out | refine below_set ?_ GE237.out | refine below_set ?_ GE239.out | refine below_set ?_ GE247.out | refine below_set ?_ GE255.out) | exact HB.out)) hb)
              clear BK233
              clear BK235
              clear BK237
              clear BK239
              clear BK247
              clear BK255
              clear HB
              have BK233 := n0_
              have BK235 := n1_
              have BK237 := n2_
              have BK239 := n3_
              have BK247 := n4_
              have BK255 := n5_
              have HB := n6_
              clear n0_ n1_ n2_ n3_ n4_ n5_ n6_
              (try clear hb)
              (try clear hb2)
              (try clear hk)
              (try clear hi)
              refine hK.out _ _ ⟨(blk_cell BK233.out 0).trans rfl, (blk_cell BK233.out 1).trans rfl, (blk_cell BK235.out 0).trans rfl, (blk_cell BK235.out 1).trans rfl, (blk_cell BK237.out 0).trans rfl, (blk_cell BK237.out 1).trans rfl, (blk_cell BK239.out 0).trans rfl, (blk_cell BK239.out 1).trans rfl⟩ (fun hHeld => ?_)
              clear hK K
              refine norm_ (a' := ?_) ?_ ?_
              rotate_left
              ·show Act.put _ (some 116) _ = _
               simp only [Act.put, List.setIfInBounds_toArray, List.set_cons_zero, List.set_cons_succ, i64_w, i32_w]
               rfl
              refine pure_ (i := 38) (N := some 118) (v := ?_) (a' := ?_) #[true, true, true, true, true, true, true, true, true, true, true, true, true, true, true, true, true, true, true, true, true, true, true, true, true, true, true, true, true, true, true, true, true, true, true, true, true, true, true, false, false, false, false, false, false, false, false, false, false] rfl rfl (any_of HT_.out (by kernel_rfl)) (fun _ _ _ h => h) (Or.inl ⟨by rfl, ?_⟩) ?_ ?_
              rotate_left
              ·intro w'
               go_simp
               with_reducible rfl
              rotate_left
              ·simp only [Act.put, List.setIfInBounds_toArray, List.set_cons_zero, List.set_cons_succ, i64_w, i32_w]
               rfl
              refine pure_ (i := 39) (N := some 119) (v := ?_) (a' := ?_) #[true, true, true, true, true, true, true, true, true, true, true, true, true, true, true, true, true, true, true, true, true, true, true, true, true, true, true, true, true, true, true, true, true, true, true, true, true, true, true, true, false, false, false, false, false, false, false, false, false] rfl rfl (any_of HT_.out (by kernel_rfl)) (fun _ _ _ h => h) (Or.inl ⟨by rfl, ?_⟩) ?_ ?_
              rotate_left
              ·intro w'
               go_simp
               with_reducible rfl
              rotate_left
              ·simp only [Act.put, List.setIfInBounds_toArray, List.set_cons_zero, List.set_cons_succ, i64_w, i32_w]
               rfl
              refine pure_ (i := 40) (N := some 120) (v := ?_) (a' := ?_) #[true, true, true, true, true, true, true, true, true, true, true, true, true, true, true, true, true, true, true, true, true, true, true, true, true, true, true, true, true, true, true, true, true, true, true, true, true, true, true, true, true, false, false, false, false, false, false, false, false] rfl rfl (any_of HT_.out (by kernel_rfl)) (fun _ _ _ h => h) (Or.inl ⟨by rfl, ?_⟩) ?_ ?_
              rotate_left
              ·intro w'
               go_simp
               with_reducible rfl
              rotate_left
              ·simp only [Act.put, List.setIfInBounds_toArray, List.set_cons_zero, List.set_cons_succ, i64_w, i32_w]
               rfl
              refine take_ (i := 41) (N := some 121) (v := ?_) (a' := ?_) #[true, true, true, true, true, true, true, true, true, true, true, true, true, true, true, true, true, true, true, true, true, true, true, true, true, true, true, true, true, true, true, true, true, true, true, true, true, true, true, true, true, true, false, false, false, false, false, false, false] rfl rfl (take_ofW HT_.out HW_.out (by kernel_rfl)) (fun _ _ _ h => h) (Or.inl ⟨by rfl, ?_⟩) hHeld ?_ ?_
              rotate_left
              ·rintro w' ⟨s0, s1, s2, s3, s4, s5, s6, s7⟩
               go_simp
               with_reducible rfl
              rotate_left
              ·simp only [Act.put, List.setIfInBounds_toArray, List.set_cons_zero, List.set_cons_succ, i64_w, i32_w]
               rfl
              refine take_ (i := 42) (N := some 122) (v := ?_) (a' := ?_) #[true, true, true, true, true, true, true, true, true, true, true, true, true, true, true, true, true, true, true, true, true, true, true, true, true, true, true, true, true, true, true, true, true, true, true, true, true, true, true, true, true, true, true, false, false, false, false, false, false] rfl rfl (take_ofW HT_.out HW_.out (by kernel_rfl)) (fun _ _ _ h => h) (Or.inl ⟨by rfl, ?_⟩) hHeld ?_ ?_
              rotate_left
              ·rintro w' ⟨s0, s1, s2, s3, s4, s5, s6, s7⟩
               go_simp
               with_reducible rfl
              rotate_left
              ·simp only [Act.put, List.setIfInBounds_toArray, List.set_cons_zero, List.set_cons_succ, i64_w, i32_w]
               rfl
              refine take_ (i := 43) (N := some 123) (v := ?_) (a' := ?_) #[true, true, true, true, true, true, true, true, true, true, true, true, true, true, true, true, true, true, true, true, true, true, true, true, true, true, true, true, true, true, true, true, true, true, true, true, true, true, true, true, true, true, true, true, false, false, false, false, false] rfl rfl (take_ofW HT_.out HW_.out (by kernel_rfl)) (fun _ _ _ h => h) (Or.inl ⟨by rfl, ?_⟩) hHeld ?_ ?_
              rotate_left
              ·rintro w' ⟨s0, s1, s2, s3, s4, s5, s6, s7⟩
               go_simp
               with_reducible rfl
              rotate_left
              ·simp only [Act.put, List.setIfInBounds_toArray, List.set_cons_zero, List.set_cons_succ, i64_w, i32_w]
               rfl
              refine take_ (i := 45) (N := some 125) (v := ?_) (a' := ?_) #[true, true, true, true, true, true, true, true, true, true, true, true, true, true, true, true, true, true, true, true, true, true, true, true, true, true, true, true, true, true, true, true, true, true, true, true, true, true, true, true, true, true, true, true, false, true, false, false, false] rfl rfl (take_ofW HT_.out HW_.out (by kernel_rfl)) (fun _ _ _ h => h) (Or.inl ⟨by rfl, ?_⟩) hHeld ?_ ?_
              rotate_left
              ·rintro w' ⟨s0, s1, s2, s3, s4, s5, s6, s7⟩
               go_simp
               with_reducible rfl
              rotate_left
              ·simp only [Act.put, List.setIfInBounds_toArray, List.set_cons_zero, List.set_cons_succ, i64_w, i32_w]
               rfl
              refine one_ (i := 44) (N := some 124) #[true, true, true, true, true, true, true, true, true, true, true, true, true, true, true, true, true, true, true, true, true, true, true, true, true, true, true, true, true, true, true, true, true, true, true, true, true, true, true, true, true, true, true, true, true, true, false, false, false] rfl rfl (one_of HT_.out (by kernel_rfl)) (by decide) (fun K hK => ?_)
              refine goes_ Try.func30 (by kernel_rfl) rfl #[.agg #[.int .i64 ((rd_T34 t229 0).f0), .int .i64 ((rd_T34 t229 0).f1)], .agg #[.int .i64 ((rd_T34 t229 0).f0), .int .i64 ((rd_T34 t229 0).f1)], .agg #[.int .i64 ((rd_T34 t229 0).f0), .int .i64 ((rd_T34 t229 0).f1)], .int .i64 2] (by rfl) rfl rfl (by (try simp only [List.map_toArray, List.map_cons, List.map_nil]); first | done | rfl | (simp only [List.length_drop, List.length_take]; rfl)) ?_
              with_reducible refine (impl_QuadAt.calls k1 ((rd_T34 t229 0).f0) ((rd_T34 t229 0).f1) ((rd_T34 t229 0).f0) ((rd_T34 t229 0).f1) ((rd_T34 t229 0).f0) ((rd_T34 t229 0).f1) 2 t283 t284 _ A117.out).mono ?_
              rintro e w124 ⟨rfl, hb⟩
              refine ⟨_, rfl, ?_⟩
              have n0_ := Aside0.mk (blk_below (g := gb233) (o := .cells #[.int .i64 ((rd_T34 t229 0).f0), .int .i64 ((rd_T34 t229 0).f1)] 34 (0, 0)) (by (with_reducible repeat (first | refine blk_drewN ?_ _ | refine blk_drew ?_ | refine blk_alloc ?_ _)); exact BK233.out) hb)
              have n1_ := Aside0.mk (blk_below (g := gb235) (o := .cells #[.int .i64 ((rd_T34 t229 1).f0), .int .i64 ((rd_T34 t229 1).f1)] 34 (0, 0)) (by (with_reducible repeat (first | refine blk_drewN ?_ _ | refine blk_drew ?_ | refine blk_alloc ?_ _)); exact BK235.out) hb)
              have n2_ := Aside0.mk (blk_below (g := gb237) (o := .cells #[.int .i64 ((rd_T34 t229 2).f0), .int .i64 ((rd_T34 t229 2).f1)] 34 (0, 0)) (by (with_reducible repeat (first | refine blk_drewN ?_ _ | refine blk_drew ?_ | refine blk_alloc ?_ _)); exact BK237.out) hb)
              have n3_ := Aside0.mk (blk_below (g := gb239) (o := .cells #[.int .i64 ((rd_T34 t229 3).f0), .int .i64 ((rd_T34 t229 3).f1)] 34 (0, 0)) (by (with_reducible repeat (first | refine blk_drewN ?_ _ | refine blk_drew ?_ | refine blk_alloc ?_ _)); exact BK239.out) hb)
              have n4_ := Aside0.mk (blk_below (g := gb247) (o := .cells #[.int .i64 t243, .int .i64 t244, .int .i64 t245, .int .i64 t246] 26 (0, 0)) (by (with_reducible repeat (first | refine blk_drewN ?_ _ | refine blk_drew ?_ | refine blk_alloc ?_ _)); exact BK247.out) hb)
              have n5_ := Aside0.mk (blk_below (g := gb255) (o := .cells #[.int .i64 t251, .int .i64 t252, .int .i64 t253, .int .i64 t254] 26 (0, 0)) (by (with_reducible repeat (first | refine blk_drewN ?_ _ | refine blk_drew ?_ | refine blk_alloc ?_ _)); exact BK255.out) hb)
              have n6_ := Aside0.mk (below_step (by repeat (first | (with_reducible first | exact HB.out | apply below_alloc | apply pw_below_drewN | apply below_drew1 | refine below_set ?_ GE233.out | refine below_set ?_ GE235.out | refine below_set ?_ GE237.out | refine below_set ?_ GE239.out | refine below_set ?_ GE247.out | refine below_set ?_ GE255.out) | exact HB.out)) hb)
              clear BK233
              clear BK235
              clear BK237
              clear BK239
              clear BK247
              clear BK255
              clear HB
              have BK233 := n0_
              have BK235 := n1_
              have BK237 := n2_
              have BK239 := n3_
              have BK247 := n4_
              have BK255 := n5_
              have HB := n6_
              clear n0_ n1_ n2_ n3_ n4_ n5_ n6_
              (try clear hb)
              (try clear hb2)
              (try clear hk)
              (try clear hi)
              refine hK.out _ _ ⟨(blk_cell BK233.out 0).trans rfl, (blk_cell BK233.out 1).trans rfl, (blk_cell BK235.out 0).trans rfl, (blk_cell BK235.out 1).trans rfl, (blk_cell BK237.out 0).trans rfl, (blk_cell BK237.out 1).trans rfl, (blk_cell BK239.out 0).trans rfl, (blk_cell BK239.out 1).trans rfl⟩ (fun hHeld => ?_)
              clear hK K
              refine norm_ (a' := ?_) ?_ ?_
              rotate_left
              ·show Act.put _ (some 124) _ = _
               simp only [Act.put, List.setIfInBounds_toArray, List.set_cons_zero, List.set_cons_succ, i64_w, i32_w]
               rfl
              refine pure_ (i := 46) (N := some 126) (v := ?_) (a' := ?_) #[true, true, true, true, true, true, true, true, true, true, true, true, true, true, true, true, true, true, true, true, true, true, true, true, true, true, true, true, true, true, true, true, true, true, true, true, true, true, true, true, true, true, true, true, true, true, true, false, false] rfl rfl (any_of HT_.out (by kernel_rfl)) (fun _ _ _ h => h) (Or.inl ⟨by rfl, ?_⟩) ?_ ?_
              rotate_left
              ·intro w'
               go_simp
               with_reducible rfl
              rotate_left
              ·simp only [Act.put, List.setIfInBounds_toArray, List.set_cons_zero, List.set_cons_succ, i64_w, i32_w]
               rfl
              refine pure_ (i := 47) (N := some 127) (v := ?_) (a' := ?_) #[true, true, true, true, true, true, true, true, true, true, true, true, true, true, true, true, true, true, true, true, true, true, true, true, true, true, true, true, true, true, true, true, true, true, true, true, true, true, true, true, true, true, true, true, true, true, true, true, false] rfl rfl (any_of HT_.out (by kernel_rfl)) (fun _ _ _ h => h) (Or.inl ⟨by rfl, ?_⟩) ?_ ?_
              rotate_left
              ·intro w'
               go_simp
               with_reducible rfl
              rotate_left
              ·simp only [Act.put, List.setIfInBounds_toArray, List.set_cons_zero, List.set_cons_succ, i64_w, i32_w]
               rfl
              refine pure_ (i := 48) (N := some 2) (v := ?_) (a' := ?_) #[true, true, true, true, true, true, true, true, true, true, true, true, true, true, true, true, true, true, true, true, true, true, true, true, true, true, true, true, true, true, true, true, true, true, true, true, true, true, true, true, true, true, true, true, true, true, true, true, true] rfl rfl (any_of HT_.out (by kernel_rfl)) (fun _ _ _ h => h) (Or.inl ⟨by rfl, ?_⟩) ?_ ?_
              rotate_left
              ·intro w'
               go_simp
               with_reducible rfl
              rotate_left
              ·simp only [Act.put, List.setIfInBounds_toArray, List.set_cons_zero, List.set_cons_succ, i64_w, i32_w]
               rfl
              refine done_ (done_of HT_.out (by kernel_rfl)) ?_
              try go_wp2
              all_goals (go_ret; exact ⟨by first | rfl | (simp [errW_none, errW_some] <;> rfl) | (simp [*, errW_none, errW_some] <;> rfl), by repeat (first | (with_reducible first | exact HB.out | apply below_alloc | apply pw_below_drewN | apply below_drew1 | refine below_set ?_ GE233.out | refine below_set ?_ GE235.out | refine below_set ?_ GE237.out | refine below_set ?_ GE239.out | refine below_set ?_ GE247.out | refine below_set ?_ GE255.out) | exact HB.out)⟩)
             ·rw [if_neg c116] at H
              have c116b0 : (t281 == ((rd_T34 t229 0).f0) && (t282 == ((rd_T34 t229 0).f1))) = false := by simpa using c116
              (try (have c116b1 : decide (t281 = ((rd_T34 t229 0).f0) && (t282 == ((rd_T34 t229 0).f1))) = false := by simpa using c116))
              (try (have c116b2 : (t281 == ((rd_T34 t229 0).f0) && (t282 == ((rd_T34 t229 0).f1))) = false := by simpa using c116))
              (try (have c116b3 : ¬ (t281 = ((rd_T34 t229 0).f0) && (t282 == ((rd_T34 t229 0).f1))) := by simpa using c116))
              clear c116
              obtain rfl := Option.some.inj H
              exact absurd hr_ (by decide)
            ·rw [if_neg c114] at H
             have c114b0 : (t279 == ((rd_T34 t229 3).f0) && (t280 == ((rd_T34 t229 3).f1))) = false := by simpa using c114
             (try (have c114b1 : decide (t279 = ((rd_T34 t229 3).f0) && (t280 == ((rd_T34 t229 3).f1))) = false := by simpa using c114))
             (try (have c114b2 : (t279 == ((rd_T34 t229 3).f0) && (t280 == ((rd_T34 t229 3).f1))) = false := by simpa using c114))
             (try (have c114b3 : ¬ (t279 = ((rd_T34 t229 3).f0) && (t280 == ((rd_T34 t229 3).f1))) := by simpa using c114))
             clear c114
             obtain rfl := Option.some.inj H
             exact absurd hr_ (by decide)
           ·rw [if_neg c112] at H
            have c112b0 : (t277 == ((rd_T34 t229 0).f0) && (t278 == ((rd_T34 t229 0).f1))) = false := by simpa using c112
            (try (have c112b1 : decide (t277 = ((rd_T34 t229 0).f0) && (t278 == ((rd_T34 t229 0).f1))) = false := by simpa using c112))
            (try (have c112b2 : (t277 == ((rd_T34 t229 0).f0) && (t278 == ((rd_T34 t229 0).f1))) = false := by simpa using c112))
            (try (have c112b3 : ¬ (t277 = ((rd_T34 t229 0).f0) && (t278 == ((rd_T34 t229 0).f1))) := by simpa using c112))
            clear c112
            obtain rfl := Option.some.inj H
            exact absurd hr_ (by decide)
          ·rw [if_neg c110] at H
           have c110b0 : (t275 == ((rd_T34 t229 2).f0) && (t276 == ((rd_T34 t229 2).f1))) = false := by simpa using c110
           (try (have c110b1 : decide (t275 = ((rd_T34 t229 2).f0) && (t276 == ((rd_T34 t229 2).f1))) = false := by simpa using c110))
           (try (have c110b2 : (t275 == ((rd_T34 t229 2).f0) && (t276 == ((rd_T34 t229 2).f1))) = false := by simpa using c110))
           (try (have c110b3 : ¬ (t275 = ((rd_T34 t229 2).f0) && (t276 == ((rd_T34 t229 2).f1))) := by simpa using c110))
           clear c110
           obtain rfl := Option.some.inj H
           exact absurd hr_ (by decide)
         ·rw [if_neg c108] at H
          have c108b0 : (t273 == ((rd_T34 t229 0).f0) && (t274 == ((rd_T34 t229 0).f1))) = false := by simpa using c108
          (try (have c108b1 : decide (t273 = ((rd_T34 t229 0).f0) && (t274 == ((rd_T34 t229 0).f1))) = false := by simpa using c108))
          (try (have c108b2 : (t273 == ((rd_T34 t229 0).f0) && (t274 == ((rd_T34 t229 0).f1))) = false := by simpa using c108))
          (try (have c108b3 : ¬ (t273 = ((rd_T34 t229 0).f0) && (t274 == ((rd_T34 t229 0).f1))) := by simpa using c108))
          clear c108
          obtain rfl := Option.some.inj H
          exact absurd hr_ (by decide)
     ·rw [if_neg c8] at H
      exact absurd H (by simp)
    ·rw [if_neg c7] at H
     exact absurd H (by simp)
   ·rw [if_neg c6] at H
    exact absurd H (by simp)
  ·rw [if_neg c5] at H
   exact absurd H (by simp)


/-- THE ONE PURE STATEMENT of laws_FnCurves: yours. -/
def laws_FnCurves.Pure : Prop := ∀ (l0 : List Int), l0.length ≤ maxLen → l0.length * 1 ≤ 140737488351232 → (∀ x ∈ l0, (Lit.int .u8 x).wf = true) → ∃ k, laws_FnCurves.f k l0 = some true
theorem laws_FnCurves.walk (P : laws_FnCurves.Pure) (a0 : Option Addr) (len0 cap0 : Nat) (z0 : List Int) (w : World) (w0 : (a0 = none ∧ len0 = 0 ∧ cap0 = 0 ∧ z0 = []) ∨ ∃ x, a0 = some x ∧ len0 ≤ cap0 ∧ cap0 ≤ maxLen ∧ z0.length = cap0 ∧ (∀ i, i < z0.length → w.cell? (x.add i) = some (.int .u8 (z0.getD i 0))) ∧ ∀ n ∈ z0, (Lit.int .u8 n).wf = true) (y0 : len0 * 1 ≤ 140737488351232) :
    Calls Try.prog 9 #[.slice a0 len0 cap0] w fun e w' => e = .returned (.bool true) ∧ Below w.heap.size w w' := by
  obtain ⟨l0, rfl, hr0, hm0, hw0, hc0⟩ := ReadsInt.ofRowC w0
  obtain ⟨k, h⟩ := P l0 hm0 y0 hw0
  refine (laws_FnCurves.calls k _ _ l0 true rfl w (Kd.C_of_reads (d := (0 : Int)) (h1 := fun _ => rfl) hr0) hc0 h).mono ?_
  rintro e w' ⟨rfl, hd⟩
  exact ⟨rfl, hd⟩

end Go.Proofs.Ytpemfeobcbpjdaa.PFnCurves
