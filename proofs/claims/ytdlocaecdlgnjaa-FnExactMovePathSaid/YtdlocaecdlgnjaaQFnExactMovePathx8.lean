/- The walks of FnExactMovePath, part 8: what the print wrote, with some proofs of the session's own. -/
import Derived.Test.YtdlocaecdlgnjaaName
import Derived.Test.YtdlocaecdlgnjaaQFnExactMovePathx0
import Derived.Test.YtdlocaecdlgnjaaQFnExactMovePathx1
import Derived.Test.YtdlocaecdlgnjaaQFnExactMovePathx2
import Derived.Test.YtdlocaecdlgnjaaQFnExactMovePathx3
import Derived.Test.YtdlocaecdlgnjaaQFnExactMovePathx5
import Derived.Test.YtdlocaecdlgnjaaQFnExactMovePathx7
namespace Go.Proofs.Ytdlocaecdlgnjaa.PFnExactMovePath
open Go.RowKit Go.Proofs.YtdlocaecdlgnjaaW.PrintWords Go.Proofs.YtdlocaecdlgnjaaW.PrintLast Go.Proofs.YtdlocaecdlgnjaaW.PrintMore
attribute [local go_sem] max2_int min2_int max_two min_two max_three min_three max_four min_four   -- for this text's walks alone
set_option linter.unusedVariables false
set_option linter.unusedSimpArgs false

/-! ### laws_FnExactMovePath: function 13 -/
def laws_FnExactMovePath.j0 : Nat → Bool → Int → Int → Int → Int → Int → Int → List Int → List (S23) → List Int → List (S24) → List Int → List (S24) → Option (Bool)
  | 0, _, _, _, _, _, _, _, _, _, _, _, _, _ => none
  | k + 1, x48, x254000, x254001, x254002, x254003, x254004, x254005, x255000, x255001, x275000, x275001, x295000, x295001 => if x48 = true then (some false) else ((laws_markPath.f k x295000 x295001 1).bind fun bt307 => ((laws_heldPath.f k bt307.2.1 bt307.2.2 1).bind fun t310 => (if t310 < 0 then (some false) else (if t310 = bt307.1 then ((laws_toMat.f x254000 x254001 x254002 x254003 x254004 x254005).bind fun bt311 => ((laws_toPath.f k x255000 x255001).bind fun bt317 => ((impl_MovePath.f k bt311.1 bt311.2.1 bt311.2.2.1 bt311.2.2.2.1 bt311.2.2.2.2.1 bt311.2.2.2.2.2 bt317.1 bt317.2).bind fun bt323 => ((laws_eqPath.f k bt323.1 bt323.2 x275000 x275001).bind fun t330 => (if t330 = true then ((laws_heldPath.f k bt307.2.1 bt307.2.2 1).bind fun t331 => (if t331 < 0 then (some false) else (if t331 = bt307.1 then (some true) else (some false)))) else (some false)))))) else (some false)))))
def laws_FnExactMovePath.f (k : Nat) (a0_0 : Int) (a0_1 : Int) (a0_2 : Int) (a0_3 : Int) (a0_4 : Int) (a0_5 : Int) (l1_0 : List Int) (l1_1 : List (S23)) : Option (Bool) := (laws_szPath.f l1_0 l1_1 1048576).bind fun t255 => (if t255 < 0 then (some true) else ((laws_toMat.f a0_0 a0_1 a0_2 a0_3 a0_4 a0_5).bind fun bt256 => ((laws_toPath.f k l1_0 l1_1).bind fun bt262 => ((spec_MovePath.f k bt256.1 bt256.2.1 bt256.2.2.1 bt256.2.2.2.1 bt256.2.2.2.2.1 bt256.2.2.2.2.2 bt262.1 bt262.2).bind fun bt268 => ((laws_toPath.f k l1_0 l1_1).bind fun bt275 => ((laws_toMat.f a0_0 a0_1 a0_2 a0_3 a0_4 a0_5).bind fun bt282 => ((impl_MovePath.f k bt282.1 bt282.2.1 bt282.2.2.1 bt282.2.2.2.1 bt282.2.2.2.2.1 bt282.2.2.2.2.2 bt275.1 bt275.2).bind fun bt288 => ((laws_eqPath.f k bt288.1 bt288.2 bt268.1 bt268.2).bind fun t295 => (if t295 = true then ((laws_toPath.f k l1_0 l1_1).bind fun bt296 => ((laws_eqPath.f k bt275.1 bt275.2 bt296.1 bt296.2).bind fun t302 => (if t302 = true then ((laws_markPath.f k bt275.1 bt275.2 1).bind fun bt303 => (if bt303.1 < 0 then (laws_FnExactMovePath.j0 k true a0_0 a0_1 a0_2 a0_3 a0_4 a0_5 l1_0 l1_1 bt268.1 bt268.2 bt288.1 bt288.2) else ((laws_eqPath.f k bt288.1 bt288.2 bt268.1 bt268.2).bind fun t306 => (laws_FnExactMovePath.j0 k (!t306) a0_0 a0_1 a0_2 a0_3 a0_4 a0_5 l1_0 l1_1 bt268.1 bt268.2 bt288.1 bt288.2)))) else (some false)))) else (some false))))))))))
theorem laws_FnExactMovePath.mono_l : ∀ k, (∀ y0 y1 y2 y3 y4 y5 y6 y7 y8 y9 y10 y11 y12, LeO (laws_FnExactMovePath.j0 k y0 y1 y2 y3 y4 y5 y6 y7 y8 y9 y10 y11 y12) (laws_FnExactMovePath.j0 (k + 1) y0 y1 y2 y3 y4 y5 y6 y7 y8 y9 y10 y11 y12))
  | 0 => fun _ _ _ _ _ _ _ _ _ _ _ _ _ r h => by simp [laws_FnExactMovePath.j0] at h
  | k + 1 => by
    have ih0 := laws_FnExactMovePath.mono_l k
    · intro y0 y1 y2 y3 y4 y5 y6 y7 y8 y9 y10 y11 y12
      unfold laws_FnExactMovePath.j0
      repeat' first
      | (with_reducible exact ih0 _ _ _ _ _ _ _ _ _ _ _ _ _)
      | (with_reducible exact impl_MovePath.mono _ _ _ _ _ _ _ _ _)
      | (with_reducible exact laws_eqPath.mono _ _ _ _ _)
      | (with_reducible exact laws_heldPath.mono _ _ _ _)
      | (with_reducible exact laws_markPath.mono _ _ _ _)
      | (with_reducible exact laws_toPath.mono _ _ _)
      | (with_reducible exact spec_MovePath.mono _ _ _ _ _ _ _ _ _)
      | (with_reducible exact LeO.refl _)
      | (with_reducible exact LeO.none _)
      | (with_reducible refine LeO.ite ?_ ?_)
      | (with_reducible refine LeO.bind ?_ (fun _ => ?_))
      | exact ih0 _ _ _ _ _ _ _ _ _ _ _ _ _
      | exact impl_MovePath.mono _ _ _ _ _ _ _ _ _
      | exact laws_eqPath.mono _ _ _ _ _
      | exact laws_heldPath.mono _ _ _ _
      | exact laws_markPath.mono _ _ _ _
      | exact laws_toPath.mono _ _ _
      | exact spec_MovePath.mono _ _ _ _ _ _ _ _ _
      | exact LeO.none _
      | refine LeO.ite ?_ ?_
      | refine LeO.bind ?_ (fun _ => ?_)
theorem laws_FnExactMovePath.mono : ∀ a0 a1 a2 a3 a4 a5 a6 a7 k, LeO (laws_FnExactMovePath.f k a0 a1 a2 a3 a4 a5 a6 a7) (laws_FnExactMovePath.f (k + 1) a0 a1 a2 a3 a4 a5 a6 a7) := by
  intro a0 a1 a2 a3 a4 a5 a6 a7 k
  have ih0 := laws_FnExactMovePath.mono_l k
  unfold laws_FnExactMovePath.f
  repeat' first
      | (with_reducible exact ih0 _ _ _ _ _ _ _ _ _ _ _ _ _)
      | (with_reducible exact impl_MovePath.mono _ _ _ _ _ _ _ _ _)
      | (with_reducible exact laws_eqPath.mono _ _ _ _ _)
      | (with_reducible exact laws_heldPath.mono _ _ _ _)
      | (with_reducible exact laws_markPath.mono _ _ _ _)
      | (with_reducible exact laws_toPath.mono _ _ _)
      | (with_reducible exact spec_MovePath.mono _ _ _ _ _ _ _ _ _)
      | (with_reducible exact LeO.refl _)
      | (with_reducible exact LeO.none _)
      | (with_reducible refine LeO.ite ?_ ?_)
      | (with_reducible refine LeO.bind ?_ (fun _ => ?_))
      | exact ih0 _ _ _ _ _ _ _ _ _ _ _ _ _
      | exact impl_MovePath.mono _ _ _ _ _ _ _ _ _
      | exact laws_eqPath.mono _ _ _ _ _
      | exact laws_heldPath.mono _ _ _ _
      | exact laws_markPath.mono _ _ _ _
      | exact laws_toPath.mono _ _ _
      | exact spec_MovePath.mono _ _ _ _ _ _ _ _ _
      | exact LeO.none _
      | refine LeO.ite ?_ ?_
      | refine LeO.bind ?_ (fun _ => ?_)
set_option maxHeartbeats 8000000 in
set_option maxRecDepth 100000 in
theorem laws_FnExactMovePath.calls (k : Nat) (a0_0 : Int) (a0_1 : Int) (a0_2 : Int) (a0_3 : Int) (a0_4 : Int) (a0_5 : Int) (A1_0 : Option Addr) (c1_0 : Nat) (l1_0 : List Int) (A1_1 : Option Addr) (c1_1 : Nat) (l1_1 : List (S23)) (r : Bool) (hr_ : r = true) (w : World) (hr1_0 : Kd.C (Kd.int .i64) w A1_0 l1_0.length l1_0) (hc1_0 : l1_0.length ≤ c1_0) (hr1_1 : Kd.C k23 w A1_1 l1_1.length l1_1) (hc1_1 : l1_1.length ≤ c1_1) (h : laws_FnExactMovePath.f k a0_0 a0_1 a0_2 a0_3 a0_4 a0_5 l1_0 l1_1 = some r) :
    Calls Try.prog 13 #[.agg #[.int .i64 a0_0, .int .i64 a0_1, .int .i64 a0_2, .int .i64 a0_3, .int .i64 a0_4, .int .i64 a0_5], .agg #[.slice A1_0 l1_0.length c1_0, .slice A1_1 l1_1.length c1_1]] w fun e w' => e = .returned (.bool r) ∧ Below w.heap.size w w' := by
 have hu32 := Try.underlying32
 have hu64 := Try.underlying64
 have hu50 := Try.underlying50
 have HR1_0 := Aside0.mk hr1_0
 have HC1_0 := Aside0.mk hc1_0
 clear hr1_0 hc1_0
 have HR1_1 := Aside0.mk hr1_1
 have HC1_1 := Aside0.mk hc1_1
 clear hr1_1 hc1_1
 have HB := Aside0.mk (Below.refl w.heap.size w)
 have H : ((laws_szPath.f l1_0 l1_1 1048576).bind fun t255 => (if t255 < 0 then (some true) else ((laws_toMat.f a0_0 a0_1 a0_2 a0_3 a0_4 a0_5).bind fun bt256 => ((laws_toPath.f k l1_0 l1_1).bind fun bt262 => ((spec_MovePath.f k bt256.1 bt256.2.1 bt256.2.2.1 bt256.2.2.2.1 bt256.2.2.2.2.1 bt256.2.2.2.2.2 bt262.1 bt262.2).bind fun bt268 => ((laws_toPath.f k l1_0 l1_1).bind fun bt275 => ((laws_toMat.f a0_0 a0_1 a0_2 a0_3 a0_4 a0_5).bind fun bt282 => ((impl_MovePath.f k bt282.1 bt282.2.1 bt282.2.2.1 bt282.2.2.2.1 bt282.2.2.2.2.1 bt282.2.2.2.2.2 bt275.1 bt275.2).bind fun bt288 => ((laws_eqPath.f k bt288.1 bt288.2 bt268.1 bt268.2).bind fun t295 => (if t295 = true then ((laws_toPath.f k l1_0 l1_1).bind fun bt296 => ((laws_eqPath.f k bt275.1 bt275.2 bt296.1 bt296.2).bind fun t302 => (if t302 = true then ((laws_markPath.f k bt275.1 bt275.2 1).bind fun bt303 => (if bt303.1 < 0 then (laws_FnExactMovePath.j0 k true a0_0 a0_1 a0_2 a0_3 a0_4 a0_5 l1_0 l1_1 bt268.1 bt268.2 bt288.1 bt288.2) else ((laws_eqPath.f k bt288.1 bt288.2 bt268.1 bt268.2).bind fun t306 => (laws_FnExactMovePath.j0 k (!t306) a0_0 a0_1 a0_2 a0_3 a0_4 a0_5 l1_0 l1_1 bt268.1 bt268.2 bt288.1 bt288.2)))) else (some false)))) else (some false))))))))))) = some r := h
 clear h
 replace H := Option.bind_eq_some_iff.mp H
 obtain ⟨t255, A30, H⟩ := H
 replace H : (if t255 < 0 then (some true) else ((laws_toMat.f a0_0 a0_1 a0_2 a0_3 a0_4 a0_5).bind fun bt256 => ((laws_toPath.f k l1_0 l1_1).bind fun bt262 => ((spec_MovePath.f k bt256.1 bt256.2.1 bt256.2.2.1 bt256.2.2.2.1 bt256.2.2.2.2.1 bt256.2.2.2.2.2 bt262.1 bt262.2).bind fun bt268 => ((laws_toPath.f k l1_0 l1_1).bind fun bt275 => ((laws_toMat.f a0_0 a0_1 a0_2 a0_3 a0_4 a0_5).bind fun bt282 => ((impl_MovePath.f k bt282.1 bt282.2.1 bt282.2.2.1 bt282.2.2.2.1 bt282.2.2.2.2.1 bt282.2.2.2.2.2 bt275.1 bt275.2).bind fun bt288 => ((laws_eqPath.f k bt288.1 bt288.2 bt268.1 bt268.2).bind fun t295 => (if t295 = true then ((laws_toPath.f k l1_0 l1_1).bind fun bt296 => ((laws_eqPath.f k bt275.1 bt275.2 bt296.1 bt296.2).bind fun t302 => (if t302 = true then ((laws_markPath.f k bt275.1 bt275.2 1).bind fun bt303 => (if bt303.1 < 0 then (laws_FnExactMovePath.j0 k true a0_0 a0_1 a0_2 a0_3 a0_4 a0_5 l1_0 l1_1 bt268.1 bt268.2 bt288.1 bt288.2) else ((laws_eqPath.f k bt288.1 bt288.2 bt268.1 bt268.2).bind fun t306 => (laws_FnExactMovePath.j0 k (!t306) a0_0 a0_1 a0_2 a0_3 a0_4 a0_5 l1_0 l1_1 bt268.1 bt268.2 bt288.1 bt288.2)))) else (some false)))) else (some false)))))))))) = some r := H
 have A3 := Aside0.mk A30
 clear A30
 by_cases c4 : t255 < 0
 ·rw [if_pos c4] at H
  have c4b0 : decide (t255 < 0) = true := decide_eq_true c4
  clear c4
  obtain rfl := Option.some.inj H
  go_enter Try.func13, Try.ntmps13
  go_wp2_with (first | ((with_reducible refine gate_dst (N := 2) rfl ?_); refine box_event ?hg (N := 2) ?hd (cs := #[.int .i64 a0_0, .int .i64 a0_1, .int .i64 a0_2, .int .i64 a0_3, .int .i64 a0_4, .int .i64 a0_5]) (t := 32) ?hr ?_; (case hd => rfl); (case hg => rfl); (case hr => first | (go_simp; done) | (go_simp; rfl)); intro gb253 hg w5 hbox hb; have n0_ := Aside0.mk (below_step (by repeat (first | (with_reducible first | exact HB.out | apply below_alloc | apply pw_below_drewN | apply below_drew1) | exact HB.out)) hb); have n1_ := Aside0.mk (hbox); have n2_ := Aside0.mk ((by rw [hg]; exact (below_size (by repeat (first | (with_reducible first | exact HB.out | apply below_alloc | apply pw_below_drewN | apply below_drew1) | exact HB.out))) : w.heap.size ≤ gb253)); have n3_ := Aside0.mk ((by rw [hg]; exact (below_size (by repeat (first | (with_reducible first | exact HB.out | apply below_alloc | apply pw_below_drewN | apply below_drew1) | exact HB.out))) : w.heap.size ≤ gb253)); clear HB; have HB := n0_; have BK253 := n1_; have GW253 := n2_; have GE253 := n3_; clear n0_ n1_ n2_ n3_; clear hb hbox hg) | ((with_reducible refine gate_dst (N := 3) rfl ?_); refine box_event ?hg (N := 3) ?hd (cs := #[.slice A1_0 l1_0.length c1_0, .slice A1_1 l1_1.length c1_1]) (t := 64) ?hr ?_; (case hd => rfl); (case hg => rfl); (case hr => first | (go_simp; done) | (go_simp; rfl)); intro gb254 hg w6 hbox hb; have n0_ := Aside0.mk (blk_below (g := gb253) (o := .cells #[.int .i64 a0_0, .int .i64 a0_1, .int .i64 a0_2, .int .i64 a0_3, .int .i64 a0_4, .int .i64 a0_5] 32 (0, 0)) (by exact BK253.out) hb); have n1_ := Aside0.mk (below_step (by repeat (first | (with_reducible first | exact HB.out | apply below_alloc | apply pw_below_drewN | apply below_drew1 | refine below_set ?_ GE253.out) | exact HB.out)) hb); have n2_ := Aside0.mk (hbox); have n3_ := Aside0.mk ((by rw [hg]; exact (below_size (by repeat (first | (with_reducible first | exact HB.out | apply below_alloc | apply pw_below_drewN | apply below_drew1 | refine below_set ?_ GE253.out) | exact HB.out))) : w.heap.size ≤ gb254)); have n4_ := Aside0.mk ((by rw [hg]; exact (below_size (by repeat (first | (with_reducible first | exact HB.out | apply below_alloc | apply pw_below_drewN | apply below_drew1 | refine below_set ?_ GE253.out) | exact HB.out))) : w.heap.size ≤ gb254)); have n5_ := Aside0.mk ((by rw [hg]; exact Nat.ne_of_lt (blk_lt (g := gb253) (o := .cells #[.int .i64 a0_0, .int .i64 a0_1, .int .i64 a0_2, .int .i64 a0_3, .int .i64 a0_4, .int .i64 a0_5] 32 (0, 0)) (by exact BK253.out)) : gb253 ≠ gb254)); have n6_ := Aside0.mk ((by rw [hg]; exact Nat.ne_of_gt (blk_lt (g := gb253) (o := .cells #[.int .i64 a0_0, .int .i64 a0_1, .int .i64 a0_2, .int .i64 a0_3, .int .i64 a0_4, .int .i64 a0_5] 32 (0, 0)) (by exact BK253.out)) : gb254 ≠ gb253)); clear BK253; clear HB; have BK253 := n0_; have HB := n1_; have BK254 := n2_; have GW254 := n3_; have GE254 := n4_; have NB253_254 := n5_; have NB254_253 := n6_; clear n0_ n1_ n2_ n3_ n4_ n5_ n6_; clear hb hbox hg; have hnb7 := NB254_253.out; have hnc7 := NB253_254.out; have hcz8_0 : w6.cell? ⟨gb254, 0, none⟩ = some (.slice A1_0 l1_0.length c1_0) := (blk_cell BK254.out 0).trans rfl; have hcz8_1 : w6.cell? ⟨gb254, 1, none⟩ = some (.slice A1_1 l1_1.length c1_1) := (blk_cell BK254.out 1).trans rfl; have hfz8_0 := blk_frozen BK254.out 0; have hfz8_1 := blk_frozen BK254.out 1) | ((with_reducible refine gate_callee (f := 42) rfl ?_); refine goesL_ (some 15) rfl rfl Try.func42 (by kernel_rfl) rfl #[.agg #[.slice A1_0 l1_0.length c1_0, .slice A1_1 l1_1.length c1_1], .int .i64 1048576] rfl (by (try simp only [List.map_toArray, List.map_cons, List.map_nil]); first | done | rfl | (simp only [List.length_drop, List.length_take]; rfl)) ?_; (with_reducible refine (laws_szPath.calls _ _ l1_0 _ _ l1_1 1048576 t255 _ ?side1 ?side2 ?side3 ?side4 A3.out).mono ?_); (case side1 => repeat (first | exact (Kd.C_below HR1_0.out HB.out) | (with_reducible refine Kd.C_alloc ?_ _) | (with_reducible refine Kd.C_drewN ?_ _) | (with_reducible refine Kd.C_drew ?_))); (case side2 => exact HC1_0.out); (case side3 => repeat (first | exact (Kd.C_below HR1_1.out HB.out) | (with_reducible refine Kd.C_alloc ?_ _) | (with_reducible refine Kd.C_drewN ?_ _) | (with_reducible refine Kd.C_drew ?_))); (case side4 => exact HC1_1.out); rintro e w9 ⟨rfl, hb⟩; refine ⟨_, rfl, ?_⟩; have n0_ := Aside0.mk (blk_below (g := gb253) (o := .cells #[.int .i64 a0_0, .int .i64 a0_1, .int .i64 a0_2, .int .i64 a0_3, .int .i64 a0_4, .int .i64 a0_5] 32 (0, 0)) (by exact BK253.out) hb); have n1_ := Aside0.mk (blk_below (g := gb254) (o := .cells #[.slice A1_0 l1_0.length c1_0, .slice A1_1 l1_1.length c1_1] 64 (0, 0)) (by exact BK254.out) hb); have n2_ := Aside0.mk (below_step (by repeat (first | (with_reducible first | exact HB.out | apply below_alloc | apply pw_below_drewN | apply below_drew1 | refine below_set ?_ GE253.out | refine below_set ?_ GE254.out) | exact HB.out)) hb); clear BK253; clear BK254; clear HB; have BK253 := n0_; have BK254 := n1_; have HB := n2_; clear n0_ n1_ n2_; (try clear hb); (try clear hb2); (try clear hk); (try clear hi)))
  all_goals (go_ret; exact ⟨by first | rfl | (simp [errW_none, errW_some] <;> rfl) | (simp [*, errW_none, errW_some] <;> rfl), by repeat (first | (with_reducible first | exact HB.out | apply below_alloc | apply pw_below_drewN | apply below_drew1 | refine below_set ?_ GE253.out | refine below_set ?_ GE254.out) | exact HB.out)⟩)
 ·rw [if_neg c4] at H
  have c4b0 : decide (t255 < 0) = false := decide_eq_false c4
  clear c4
  replace H := Option.bind_eq_some_iff.mp H
  obtain ⟨⟨t256, t257, t258, t259, t260, t261⟩, A100, H⟩ := H
  replace H : ((laws_toPath.f k l1_0 l1_1).bind fun bt262 => ((spec_MovePath.f k t256 t257 t258 t259 t260 t261 bt262.1 bt262.2).bind fun bt268 => ((laws_toPath.f k l1_0 l1_1).bind fun bt275 => ((laws_toMat.f a0_0 a0_1 a0_2 a0_3 a0_4 a0_5).bind fun bt282 => ((impl_MovePath.f k bt282.1 bt282.2.1 bt282.2.2.1 bt282.2.2.2.1 bt282.2.2.2.2.1 bt282.2.2.2.2.2 bt275.1 bt275.2).bind fun bt288 => ((laws_eqPath.f k bt288.1 bt288.2 bt268.1 bt268.2).bind fun t295 => (if t295 = true then ((laws_toPath.f k l1_0 l1_1).bind fun bt296 => ((laws_eqPath.f k bt275.1 bt275.2 bt296.1 bt296.2).bind fun t302 => (if t302 = true then ((laws_markPath.f k bt275.1 bt275.2 1).bind fun bt303 => (if bt303.1 < 0 then (laws_FnExactMovePath.j0 k true a0_0 a0_1 a0_2 a0_3 a0_4 a0_5 l1_0 l1_1 bt268.1 bt268.2 bt288.1 bt288.2) else ((laws_eqPath.f k bt288.1 bt288.2 bt268.1 bt268.2).bind fun t306 => (laws_FnExactMovePath.j0 k (!t306) a0_0 a0_1 a0_2 a0_3 a0_4 a0_5 l1_0 l1_1 bt268.1 bt268.2 bt288.1 bt288.2)))) else (some false)))) else (some false)))))))) = some r := H
  have A10 := Aside0.mk A100
  clear A100
  replace H := Option.bind_eq_some_iff.mp H
  obtain ⟨⟨t262, t265⟩, A110, H⟩ := H
  replace H : ((spec_MovePath.f k t256 t257 t258 t259 t260 t261 t262 t265).bind fun bt268 => ((laws_toPath.f k l1_0 l1_1).bind fun bt275 => ((laws_toMat.f a0_0 a0_1 a0_2 a0_3 a0_4 a0_5).bind fun bt282 => ((impl_MovePath.f k bt282.1 bt282.2.1 bt282.2.2.1 bt282.2.2.2.1 bt282.2.2.2.2.1 bt282.2.2.2.2.2 bt275.1 bt275.2).bind fun bt288 => ((laws_eqPath.f k bt288.1 bt288.2 bt268.1 bt268.2).bind fun t295 => (if t295 = true then ((laws_toPath.f k l1_0 l1_1).bind fun bt296 => ((laws_eqPath.f k bt275.1 bt275.2 bt296.1 bt296.2).bind fun t302 => (if t302 = true then ((laws_markPath.f k bt275.1 bt275.2 1).bind fun bt303 => (if bt303.1 < 0 then (laws_FnExactMovePath.j0 k true a0_0 a0_1 a0_2 a0_3 a0_4 a0_5 l1_0 l1_1 bt268.1 bt268.2 bt288.1 bt288.2) else ((laws_eqPath.f k bt288.1 bt288.2 bt268.1 bt268.2).bind fun t306 => (laws_FnExactMovePath.j0 k (!t306) a0_0 a0_1 a0_2 a0_3 a0_4 a0_5 l1_0 l1_1 bt268.1 bt268.2 bt288.1 bt288.2)))) else (some false)))) else (some false))))))) = some r := H
  have A11 := Aside0.mk A110
  clear A110
  replace H := Option.bind_eq_some_iff.mp H
  obtain ⟨⟨t268, t271⟩, A120, H⟩ := H
  replace H : ((laws_toPath.f k l1_0 l1_1).bind fun bt275 => ((laws_toMat.f a0_0 a0_1 a0_2 a0_3 a0_4 a0_5).bind fun bt282 => ((impl_MovePath.f k bt282.1 bt282.2.1 bt282.2.2.1 bt282.2.2.2.1 bt282.2.2.2.2.1 bt282.2.2.2.2.2 bt275.1 bt275.2).bind fun bt288 => ((laws_eqPath.f k bt288.1 bt288.2 t268 t271).bind fun t295 => (if t295 = true then ((laws_toPath.f k l1_0 l1_1).bind fun bt296 => ((laws_eqPath.f k bt275.1 bt275.2 bt296.1 bt296.2).bind fun t302 => (if t302 = true then ((laws_markPath.f k bt275.1 bt275.2 1).bind fun bt303 => (if bt303.1 < 0 then (laws_FnExactMovePath.j0 k true a0_0 a0_1 a0_2 a0_3 a0_4 a0_5 l1_0 l1_1 t268 t271 bt288.1 bt288.2) else ((laws_eqPath.f k bt288.1 bt288.2 t268 t271).bind fun t306 => (laws_FnExactMovePath.j0 k (!t306) a0_0 a0_1 a0_2 a0_3 a0_4 a0_5 l1_0 l1_1 t268 t271 bt288.1 bt288.2)))) else (some false)))) else (some false)))))) = some r := H
  have A12 := Aside0.mk A120
  clear A120
  replace H := Option.bind_eq_some_iff.mp H
  obtain ⟨⟨t275, t278⟩, A130, H⟩ := H
  replace H : ((laws_toMat.f a0_0 a0_1 a0_2 a0_3 a0_4 a0_5).bind fun bt282 => ((impl_MovePath.f k bt282.1 bt282.2.1 bt282.2.2.1 bt282.2.2.2.1 bt282.2.2.2.2.1 bt282.2.2.2.2.2 t275 t278).bind fun bt288 => ((laws_eqPath.f k bt288.1 bt288.2 t268 t271).bind fun t295 => (if t295 = true then ((laws_toPath.f k l1_0 l1_1).bind fun bt296 => ((laws_eqPath.f k t275 t278 bt296.1 bt296.2).bind fun t302 => (if t302 = true then ((laws_markPath.f k t275 t278 1).bind fun bt303 => (if bt303.1 < 0 then (laws_FnExactMovePath.j0 k true a0_0 a0_1 a0_2 a0_3 a0_4 a0_5 l1_0 l1_1 t268 t271 bt288.1 bt288.2) else ((laws_eqPath.f k bt288.1 bt288.2 t268 t271).bind fun t306 => (laws_FnExactMovePath.j0 k (!t306) a0_0 a0_1 a0_2 a0_3 a0_4 a0_5 l1_0 l1_1 t268 t271 bt288.1 bt288.2)))) else (some false)))) else (some false))))) = some r := H
  have A13 := Aside0.mk A130
  clear A130
  replace H := Option.bind_eq_some_iff.mp H
  obtain ⟨⟨t282, t283, t284, t285, t286, t287⟩, A140, H⟩ := H
  replace H : ((impl_MovePath.f k t282 t283 t284 t285 t286 t287 t275 t278).bind fun bt288 => ((laws_eqPath.f k bt288.1 bt288.2 t268 t271).bind fun t295 => (if t295 = true then ((laws_toPath.f k l1_0 l1_1).bind fun bt296 => ((laws_eqPath.f k t275 t278 bt296.1 bt296.2).bind fun t302 => (if t302 = true then ((laws_markPath.f k t275 t278 1).bind fun bt303 => (if bt303.1 < 0 then (laws_FnExactMovePath.j0 k true a0_0 a0_1 a0_2 a0_3 a0_4 a0_5 l1_0 l1_1 t268 t271 bt288.1 bt288.2) else ((laws_eqPath.f k bt288.1 bt288.2 t268 t271).bind fun t306 => (laws_FnExactMovePath.j0 k (!t306) a0_0 a0_1 a0_2 a0_3 a0_4 a0_5 l1_0 l1_1 t268 t271 bt288.1 bt288.2)))) else (some false)))) else (some false)))) = some r := H
  have A14 := Aside0.mk A140
  clear A140
  replace H := Option.bind_eq_some_iff.mp H
  obtain ⟨⟨t288, t291⟩, A150, H⟩ := H
  replace H : ((laws_eqPath.f k t288 t291 t268 t271).bind fun t295 => (if t295 = true then ((laws_toPath.f k l1_0 l1_1).bind fun bt296 => ((laws_eqPath.f k t275 t278 bt296.1 bt296.2).bind fun t302 => (if t302 = true then ((laws_markPath.f k t275 t278 1).bind fun bt303 => (if bt303.1 < 0 then (laws_FnExactMovePath.j0 k true a0_0 a0_1 a0_2 a0_3 a0_4 a0_5 l1_0 l1_1 t268 t271 t288 t291) else ((laws_eqPath.f k t288 t291 t268 t271).bind fun t306 => (laws_FnExactMovePath.j0 k (!t306) a0_0 a0_1 a0_2 a0_3 a0_4 a0_5 l1_0 l1_1 t268 t271 t288 t291)))) else (some false)))) else (some false))) = some r := H
  have A15 := Aside0.mk A150
  clear A150
  replace H := Option.bind_eq_some_iff.mp H
  obtain ⟨t295, A160, H⟩ := H
  replace H : (if t295 = true then ((laws_toPath.f k l1_0 l1_1).bind fun bt296 => ((laws_eqPath.f k t275 t278 bt296.1 bt296.2).bind fun t302 => (if t302 = true then ((laws_markPath.f k t275 t278 1).bind fun bt303 => (if bt303.1 < 0 then (laws_FnExactMovePath.j0 k true a0_0 a0_1 a0_2 a0_3 a0_4 a0_5 l1_0 l1_1 t268 t271 t288 t291) else ((laws_eqPath.f k t288 t291 t268 t271).bind fun t306 => (laws_FnExactMovePath.j0 k (!t306) a0_0 a0_1 a0_2 a0_3 a0_4 a0_5 l1_0 l1_1 t268 t271 t288 t291)))) else (some false)))) else (some false)) = some r := H
  have A16 := Aside0.mk A160
  clear A160
  by_cases c17 : t295 = true
  ·subst c17
   have H1 : ((laws_toPath.f k l1_0 l1_1).bind fun bt296 => ((laws_eqPath.f k t275 t278 bt296.1 bt296.2).bind fun t302 => (if t302 = true then ((laws_markPath.f k t275 t278 1).bind fun bt303 => (if bt303.1 < 0 then (laws_FnExactMovePath.j0 k true a0_0 a0_1 a0_2 a0_3 a0_4 a0_5 l1_0 l1_1 t268 t271 t288 t291) else ((laws_eqPath.f k t288 t291 t268 t271).bind fun t306 => (laws_FnExactMovePath.j0 k (!t306) a0_0 a0_1 a0_2 a0_3 a0_4 a0_5 l1_0 l1_1 t268 t271 t288 t291)))) else (some false)))) = some r := by rw [if_pos rfl] at H; exact H
   clear H
   have H := H1
   clear H1
   replace H := Option.bind_eq_some_iff.mp H
   obtain ⟨⟨t296, t299⟩, A180, H⟩ := H
   replace H : ((laws_eqPath.f k t275 t278 t296 t299).bind fun t302 => (if t302 = true then ((laws_markPath.f k t275 t278 1).bind fun bt303 => (if bt303.1 < 0 then (laws_FnExactMovePath.j0 k true a0_0 a0_1 a0_2 a0_3 a0_4 a0_5 l1_0 l1_1 t268 t271 t288 t291) else ((laws_eqPath.f k t288 t291 t268 t271).bind fun t306 => (laws_FnExactMovePath.j0 k (!t306) a0_0 a0_1 a0_2 a0_3 a0_4 a0_5 l1_0 l1_1 t268 t271 t288 t291)))) else (some false))) = some r := H
   have A18 := Aside0.mk A180
   clear A180
   replace H := Option.bind_eq_some_iff.mp H
   obtain ⟨t302, A190, H⟩ := H
   replace H : (if t302 = true then ((laws_markPath.f k t275 t278 1).bind fun bt303 => (if bt303.1 < 0 then (laws_FnExactMovePath.j0 k true a0_0 a0_1 a0_2 a0_3 a0_4 a0_5 l1_0 l1_1 t268 t271 t288 t291) else ((laws_eqPath.f k t288 t291 t268 t271).bind fun t306 => (laws_FnExactMovePath.j0 k (!t306) a0_0 a0_1 a0_2 a0_3 a0_4 a0_5 l1_0 l1_1 t268 t271 t288 t291)))) else (some false)) = some r := H
   have A19 := Aside0.mk A190
   clear A190
   by_cases c20 : t302 = true
   ·subst c20
    have H1 : ((laws_markPath.f k t275 t278 1).bind fun bt303 => (if bt303.1 < 0 then (laws_FnExactMovePath.j0 k true a0_0 a0_1 a0_2 a0_3 a0_4 a0_5 l1_0 l1_1 t268 t271 t288 t291) else ((laws_eqPath.f k t288 t291 t268 t271).bind fun t306 => (laws_FnExactMovePath.j0 k (!t306) a0_0 a0_1 a0_2 a0_3 a0_4 a0_5 l1_0 l1_1 t268 t271 t288 t291)))) = some r := by rw [if_pos rfl] at H; exact H
    clear H
    have H := H1
    clear H1
    replace H := Option.bind_eq_some_iff.mp H
    obtain ⟨⟨t303, t304, t305⟩, A210, H⟩ := H
    replace H : (if t303 < 0 then (laws_FnExactMovePath.j0 k true a0_0 a0_1 a0_2 a0_3 a0_4 a0_5 l1_0 l1_1 t268 t271 t288 t291) else ((laws_eqPath.f k t288 t291 t268 t271).bind fun t306 => (laws_FnExactMovePath.j0 k (!t306) a0_0 a0_1 a0_2 a0_3 a0_4 a0_5 l1_0 l1_1 t268 t271 t288 t291))) = some r := H
    have A21 := Aside0.mk A210
    clear A210
    have HC22 := Aside0.mk H
    clear H
    go_enter Try.func13, Try.ntmps13
    try go_wp2_with (first | ((with_reducible refine gate_dst (N := 2) rfl ?_); refine box_event ?hg (N := 2) ?hd (cs := #[.int .i64 a0_0, .int .i64 a0_1, .int .i64 a0_2, .int .i64 a0_3, .int .i64 a0_4, .int .i64 a0_5]) (t := 32) ?hr ?_; (case hd => rfl); (case hg => rfl); (case hr => first | (go_simp; done) | (go_simp; rfl)); intro gb253 hg w23 hbox hb; have n0_ := Aside0.mk (below_step (by repeat (first | (with_reducible first | exact HB.out | apply below_alloc | apply pw_below_drewN | apply below_drew1) | exact HB.out)) hb); have n1_ := Aside0.mk (hbox); have n2_ := Aside0.mk ((by rw [hg]; exact (below_size (by repeat (first | (with_reducible first | exact HB.out | apply below_alloc | apply pw_below_drewN | apply below_drew1) | exact HB.out))) : w.heap.size ≤ gb253)); have n3_ := Aside0.mk ((by rw [hg]; exact (below_size (by repeat (first | (with_reducible first | exact HB.out | apply below_alloc | apply pw_below_drewN | apply below_drew1) | exact HB.out))) : w.heap.size ≤ gb253)); clear HB; have HB := n0_; have BK253 := n1_; have GW253 := n2_; have GE253 := n3_; clear n0_ n1_ n2_ n3_; clear hb hbox hg) | ((with_reducible refine gate_dst (N := 3) rfl ?_); refine box_event ?hg (N := 3) ?hd (cs := #[.slice A1_0 l1_0.length c1_0, .slice A1_1 l1_1.length c1_1]) (t := 64) ?hr ?_; (case hd => rfl); (case hg => rfl); (case hr => first | (go_simp; done) | (go_simp; rfl)); intro gb254 hg w24 hbox hb; have n0_ := Aside0.mk (blk_below (g := gb253) (o := .cells #[.int .i64 a0_0, .int .i64 a0_1, .int .i64 a0_2, .int .i64 a0_3, .int .i64 a0_4, .int .i64 a0_5] 32 (0, 0)) (by exact BK253.out) hb); have n1_ := Aside0.mk (below_step (by repeat (first | (with_reducible first | exact HB.out | apply below_alloc | apply pw_below_drewN | apply below_drew1 | refine below_set ?_ GE253.out) | exact HB.out)) hb); have n2_ := Aside0.mk (hbox); have n3_ := Aside0.mk ((by rw [hg]; exact (below_size (by repeat (first | (with_reducible first | exact HB.out | apply below_alloc | apply pw_below_drewN | apply below_drew1 | refine below_set ?_ GE253.out) | exact HB.out))) : w.heap.size ≤ gb254)); have n4_ := Aside0.mk ((by rw [hg]; exact (below_size (by repeat (first | (with_reducible first | exact HB.out | apply below_alloc | apply pw_below_drewN | apply below_drew1 | refine below_set ?_ GE253.out) | exact HB.out))) : w.heap.size ≤ gb254)); have n5_ := Aside0.mk ((by rw [hg]; exact Nat.ne_of_lt (blk_lt (g := gb253) (o := .cells #[.int .i64 a0_0, .int .i64 a0_1, .int .i64 a0_2, .int .i64 a0_3, .int .i64 a0_4, .int .i64 a0_5] 32 (0, 0)) (by exact BK253.out)) : gb253 ≠ gb254)); have n6_ := Aside0.mk ((by rw [hg]; exact Nat.ne_of_gt (blk_lt (g := gb253) (o := .cells #[.int .i64 a0_0, .int .i64 a0_1, .int .i64 a0_2, .int .i64 a0_3, .int .i64 a0_4, .int .i64 a0_5] 32 (0, 0)) (by exact BK253.out)) : gb254 ≠ gb253)); clear BK253; clear HB; have BK253 := n0_; have HB := n1_; have BK254 := n2_; have GW254 := n3_; have GE254 := n4_; have NB253_254 := n5_; have NB254_253 := n6_; clear n0_ n1_ n2_ n3_ n4_ n5_ n6_; clear hb hbox hg; have hnb25 := NB254_253.out; have hnc25 := NB253_254.out; have hcz26_0 : w24.cell? ⟨gb254, 0, none⟩ = some (.slice A1_0 l1_0.length c1_0) := (blk_cell BK254.out 0).trans rfl; have hcz26_1 : w24.cell? ⟨gb254, 1, none⟩ = some (.slice A1_1 l1_1.length c1_1) := (blk_cell BK254.out 1).trans rfl; have hfz26_0 := blk_frozen BK254.out 0; have hfz26_1 := blk_frozen BK254.out 1) | ((with_reducible refine gate_callee (f := 42) rfl ?_); refine goesL_ (some 15) rfl rfl Try.func42 (by kernel_rfl) rfl #[.agg #[.slice A1_0 l1_0.length c1_0, .slice A1_1 l1_1.length c1_1], .int .i64 1048576] rfl (by (try simp only [List.map_toArray, List.map_cons, List.map_nil]); first | done | rfl | (simp only [List.length_drop, List.length_take]; rfl)) ?_; (with_reducible refine (laws_szPath.calls _ _ l1_0 _ _ l1_1 1048576 t255 _ ?side1 ?side2 ?side3 ?side4 A3.out).mono ?_); (case side1 => repeat (first | exact (Kd.C_below HR1_0.out HB.out) | (with_reducible refine Kd.C_alloc ?_ _) | (with_reducible refine Kd.C_drewN ?_ _) | (with_reducible refine Kd.C_drew ?_))); (case side2 => exact HC1_0.out); (case side3 => repeat (first | exact (Kd.C_below HR1_1.out HB.out) | (with_reducible refine Kd.C_alloc ?_ _) | (with_reducible refine Kd.C_drewN ?_ _) | (with_reducible refine Kd.C_drew ?_))); (case side4 => exact HC1_1.out); rintro e w27 ⟨rfl, hb⟩; refine ⟨_, rfl, ?_⟩; have n0_ := Aside0.mk (blk_below (g := gb253) (o := .cells #[.int .i64 a0_0, .int .i64 a0_1, .int .i64 a0_2, .int .i64 a0_3, .int .i64 a0_4, .int .i64 a0_5] 32 (0, 0)) (by exact BK253.out) hb); have n1_ := Aside0.mk (blk_below (g := gb254) (o := .cells #[.slice A1_0 l1_0.length c1_0, .slice A1_1 l1_1.length c1_1] 64 (0, 0)) (by exact BK254.out) hb); have n2_ := Aside0.mk (below_step (by repeat (first | (with_reducible first | exact HB.out | apply below_alloc | apply pw_below_drewN | apply below_drew1 | refine below_set ?_ GE253.out | refine below_set ?_ GE254.out) | exact HB.out)) hb); clear BK253; clear BK254; clear HB; have BK253 := n0_; have BK254 := n1_; have HB := n2_; clear n0_ n1_ n2_; (try clear hb); (try clear hb2); (try clear hk); (try clear hi)))
    have n0_ := Aside0.mk (blk_drew BK253.out)
    have n1_ := Aside0.mk (blk_drew BK254.out)
    have n2_ := Aside0.mk (below_drew1 HB.out)
    clear BK253
    clear BK254
    clear HB
    have BK253 := n0_
    have BK254 := n1_
    have HB := n2_
    clear n0_ n1_ n2_
    refine start_ (n := 7) (S := fun w' => w'.cell? ⟨gb253, 0, none⟩ = some (.int .i64 a0_0) ∧ w'.cell? ⟨gb253, 1, none⟩ = some (.int .i64 a0_1) ∧ w'.cell? ⟨gb253, 2, none⟩ = some (.int .i64 a0_2) ∧ w'.cell? ⟨gb253, 3, none⟩ = some (.int .i64 a0_3) ∧ w'.cell? ⟨gb253, 4, none⟩ = some (.int .i64 a0_4) ∧ w'.cell? ⟨gb253, 5, none⟩ = some (.int .i64 a0_5) ∧ w'.cell? ⟨gb254, 0, none⟩ = some (.slice A1_0 l1_0.length c1_0) ∧ w'.cell? ⟨gb254, 1, none⟩ = some (.slice A1_1 l1_1.length c1_1)) (ds := []) #[false, false, false, false, false, false, false] (by kernel_rfl) rfl rfl ⟨(blk_cell BK253.out 0).trans rfl, (blk_cell BK253.out 1).trans rfl, (blk_cell BK253.out 2).trans rfl, (blk_cell BK253.out 3).trans rfl, (blk_cell BK253.out 4).trans rfl, (blk_cell BK253.out 5).trans rfl, (blk_cell BK254.out 0).trans rfl, (blk_cell BK254.out 1).trans rfl⟩ (fun hHeld => ?_)
    generalize w27.drew = w28 at BK253 BK254 HB hHeld ⊢
    refine take_ (i := 0) (N := some 18) (v := ?_) (a' := ?_) #[true, false, false, false, false, false, false] rfl rfl (by kernel_rfl) (fun _ _ _ h => h) (Or.inl ⟨by rfl, ?_⟩) hHeld ?_ ?_
    rotate_left
    ·rintro w' ⟨s0, s1, s2, s3, s4, s5, s6, s7⟩
     go_simp
     with_reducible rfl
    rotate_left
    ·simp only [Act.put, List.setIfInBounds_toArray, List.set_cons_zero, List.set_cons_succ, i64_w, i32_w]
     rfl
    refine take_ (i := 2) (N := some 20) (v := ?_) (a' := ?_) #[true, false, true, false, false, false, false] rfl rfl (by kernel_rfl) (fun _ _ _ h => h) (Or.inl ⟨by rfl, ?_⟩) hHeld ?_ ?_
    rotate_left
    ·rintro w' ⟨s0, s1, s2, s3, s4, s5, s6, s7⟩
     go_simp
     with_reducible rfl
    rotate_left
    ·simp only [Act.put, List.setIfInBounds_toArray, List.set_cons_zero, List.set_cons_succ, i64_w, i32_w]
     rfl
    refine join_ (σ := Value × Value × Value × Value × Nat) 1 #[true, true, true, true, true, true, false] (fun s_ => [(19, .agg #[.int .i64 t256, .int .i64 t257, .int .i64 t258, .int .i64 t259, .int .i64 t260, .int .i64 t261]), (21, .agg #[s_.1, s_.2.1]), (22, .agg #[s_.2.2.1, s_.2.2.2.1]), (6, .pointer (some ⟨s_.2.2.2.2, 0, none⟩))]) (fun s_ w' => (w'.cell? ⟨gb253, 0, none⟩ = some (.int .i64 a0_0) ∧ w'.cell? ⟨gb253, 1, none⟩ = some (.int .i64 a0_1) ∧ w'.cell? ⟨gb253, 2, none⟩ = some (.int .i64 a0_2) ∧ w'.cell? ⟨gb253, 3, none⟩ = some (.int .i64 a0_3) ∧ w'.cell? ⟨gb253, 4, none⟩ = some (.int .i64 a0_4) ∧ w'.cell? ⟨gb253, 5, none⟩ = some (.int .i64 a0_5) ∧ w'.cell? ⟨gb254, 0, none⟩ = some (.slice A1_0 l1_0.length c1_0) ∧ w'.cell? ⟨gb254, 1, none⟩ = some (.slice A1_1 l1_1.length c1_1)) ∧ (Kd.R (Kd.int .i64) 3 w' w.heap.size (fun k_ => some k_ ≠ (s_.2.2.1 : Value).ownBlock) s_.1 t262) ∧ (Kd.R k24 24 w' w.heap.size (fun k_ => some k_ ≠ (s_.2.2.2.1 : Value).ownBlock) s_.2.1 t265) ∧ (Kd.R (Kd.int .i64) 3 w' w.heap.size (fun k_ => some k_ ≠ (s_.1 : Value).ownBlock) s_.2.2.1 t268) ∧ (Kd.R k24 24 w' w.heap.size (fun k_ => some k_ ≠ (s_.2.1 : Value).ownBlock) s_.2.2.2.1 t271) ∧ (w'.heap[gb253]? = some (.cells #[.int .i64 a0_0, .int .i64 a0_1, .int .i64 a0_2, .int .i64 a0_3, .int .i64 a0_4, .int .i64 a0_5] 32 (0, 0))) ∧ (w'.heap[gb254]? = some (.cells #[.slice A1_0 l1_0.length c1_0, .slice A1_1 l1_1.length c1_1] 64 (0, 0))) ∧ (w'.heap[s_.2.2.2.2]? = some (.cells #[.slice none 0 0, .slice none 0 0] 50 (0, 0))) ∧ (w.heap.size ≤ s_.2.2.2.2) ∧ (w.heap.size ≤ s_.2.2.2.2) ∧ (gb253 ≠ s_.2.2.2.2) ∧ (s_.2.2.2.2 ≠ gb253) ∧ (gb254 ≠ s_.2.2.2.2) ∧ (s_.2.2.2.2 ≠ gb254) ∧ (Below w.heap.size w w')) ?_ ?_
    rotate_left
    ·intro hCont
     refine two_ (i := 1) (j := 5) (Ni := some 19) (Nj := some 6) #[true, true, true, false, false, false, false] #[true, false, true, false, false, true, false] rfl rfl rfl rfl (by kernel_rfl) (by decide) (by decide) (fun K hK => ?_) (fun K hK => ?_)
     ·skip
      refine goes_ Try.func21 (by kernel_rfl) rfl #[.agg #[.int .i64 a0_0, .int .i64 a0_1, .int .i64 a0_2, .int .i64 a0_3, .int .i64 a0_4, .int .i64 a0_5]] (by rfl) rfl rfl (by (try simp only [List.map_toArray, List.map_cons, List.map_nil]); first | done | rfl | (simp only [List.length_drop, List.length_take]; rfl)) ?_
      with_reducible refine (laws_toMat.calls a0_0 a0_1 a0_2 a0_3 a0_4 a0_5 t256 t257 t258 t259 t260 t261 _ A10.out).mono ?_
      rintro e w29 ⟨rfl, hb⟩
      refine ⟨_, rfl, ?_⟩
      have n0_ := Aside0.mk (blk_below BK253.out hb)
      have n1_ := Aside0.mk (blk_below BK254.out hb)
      have n2_ := Aside0.mk (below_step HB.out hb)
      clear BK253
      clear BK254
      clear HB
      have BK253 := n0_
      have BK254 := n1_
      have HB := n2_
      clear n0_ n1_ n2_
      (try clear hb)
      (try clear hb2)
      (try clear hk)
      (try clear hi)
      refine hK.out _ _ ⟨(blk_cell BK253.out 0).trans rfl, (blk_cell BK253.out 1).trans rfl, (blk_cell BK253.out 2).trans rfl, (blk_cell BK253.out 3).trans rfl, (blk_cell BK253.out 4).trans rfl, (blk_cell BK253.out 5).trans rfl, (blk_cell BK254.out 0).trans rfl, (blk_cell BK254.out 1).trans rfl⟩ (fun hHeld => ?_)
      clear hK K
      refine norm_ (a' := ?_) ?_ ?_
      rotate_left
      ·show Act.put _ (some 19) _ = _
       simp only [Act.put, List.setIfInBounds_toArray, List.set_cons_zero, List.set_cons_succ, i64_w, i32_w]
       rfl
      refine two_ (i := 3) (j := 5) (Ni := some 21) (Nj := some 6) #[true, true, true, true, false, false, false] #[true, true, true, false, false, true, false] rfl rfl rfl rfl (by kernel_rfl) (by decide) (by decide) (fun K hK => ?_) (fun K hK => ?_)
      ·skip
       refine goes_ Try.func44 (by kernel_rfl) rfl #[.agg #[.slice A1_0 l1_0.length c1_0, .slice A1_1 l1_1.length c1_1]] (by rfl) rfl rfl (by (try simp only [List.map_toArray, List.map_cons, List.map_nil]); first | done | rfl | (simp only [List.length_drop, List.length_take]; rfl)) ?_
       with_reducible refine (laws_toPath.calls k _ _ l1_0 _ _ l1_1 t262 t265 _ ?side1 ?side2 ?side3 ?side4 A11.out).mono ?_
       (case side1 => exact (Kd.C_below HR1_0.out HB.out))
       (case side2 => exact HC1_0.out)
       (case side3 => exact (Kd.C_below HR1_1.out HB.out))
       (case side4 => exact HC1_1.out)
       rintro e w30 ⟨v263, v266, rfl, ho0, ho1, hb⟩
       refine ⟨_, rfl, ?_⟩
       have n0_ := Aside0.mk (Kd.R_lower ho0 (below_size HB.out))
       have n1_ := Aside0.mk (Kd.R_lower ho1 (below_size HB.out))
       have n2_ := Aside0.mk (blk_below BK253.out hb)
       have n3_ := Aside0.mk (blk_below BK254.out hb)
       have n4_ := Aside0.mk (below_step HB.out hb)
       clear BK253
       clear BK254
       clear HB
       have HO264 := n0_
       have HO267 := n1_
       have BK253 := n2_
       have BK254 := n3_
       have HB := n4_
       clear n0_ n1_ n2_ n3_ n4_
       (try clear hb)
       (try clear hb2)
       (try clear hk)
       (try clear hi)
       (try clear ho0)
       (try clear ho1)
       obtain ⟨Ao31, co31, eo31⟩ := Kd.R_slice HO264.out
       (first | subst eo31 | (injection eo31 with f1_ f2_ f3_; have f4_ := f1_.symm; have f5_ := f3_.symm; clear f1_ f2_ f3_; subst f4_; subst f5_))
       obtain ⟨Ao32, co32, eo32⟩ := Kd.R_slice HO267.out
       (first | subst eo32 | (injection eo32 with f1_ f2_ f3_; have f4_ := f1_.symm; have f5_ := f3_.symm; clear f1_ f2_ f3_; subst f4_; subst f5_))
       refine hK.out _ _ ⟨(blk_cell BK253.out 0).trans rfl, (blk_cell BK253.out 1).trans rfl, (blk_cell BK253.out 2).trans rfl, (blk_cell BK253.out 3).trans rfl, (blk_cell BK253.out 4).trans rfl, (blk_cell BK253.out 5).trans rfl, (blk_cell BK254.out 0).trans rfl, (blk_cell BK254.out 1).trans rfl⟩ (fun hHeld => ?_)
       clear hK K
       refine norm_ (a' := ?_) ?_ ?_
       rotate_left
       ·show Act.put _ (some 21) _ = _
        simp only [Act.put, List.setIfInBounds_toArray, List.set_cons_zero, List.set_cons_succ, i64_w, i32_w]
        rfl
       refine two_ (i := 4) (j := 5) (Ni := some 22) (Nj := some 6) #[true, true, true, true, true, false, false] #[true, true, true, true, false, true, false] rfl rfl rfl rfl (by kernel_rfl) (by decide) (by decide) (fun K hK => ?_) (fun K hK => ?_)
       ·skip
        refine goes_ Try.func59 (by kernel_rfl) rfl #[.agg #[.int .i64 t256, .int .i64 t257, .int .i64 t258, .int .i64 t259, .int .i64 t260, .int .i64 t261], .agg #[.slice Ao31 t262.length co31, .slice Ao32 t265.length co32]] (by rfl) rfl rfl (by (try simp only [List.map_toArray, List.map_cons, List.map_nil]); first | done | rfl | (simp only [List.length_drop, List.length_take]; rfl)) ?_
        with_reducible refine (spec_MovePath.calls k t256 t257 t258 t259 t260 t261 _ _ t262 _ _ t265 t268 t271 _ ?side1 ?side2 ?side3 ?side4 A12.out).mono ?_
        (case side1 => exact (Kd.R_reads' HO264.out).2.2)
        (case side2 => exact (Kd.R_reads' HO264.out).2.1)
        (case side3 => exact (Kd.R_reads' HO267.out).2.2)
        (case side4 => exact (Kd.R_reads' HO267.out).2.1)
        rintro e w33 ⟨v269, v272, rfl, ho0, ho1, hb⟩
        refine ⟨_, rfl, ?_⟩
        have n0_ := Aside0.mk (Kd.R_elder' HO264.out (Kd.R_base ho0) hb)
        have n1_ := Aside0.mk (Kd.R_elder' HO267.out (Kd.R_base ho1) hb)
        have n2_ := Aside0.mk (Kd.R_lower (Kd.R_new' ho0 (Kd.R_lt HO264.out)) (below_size HB.out))
        have n3_ := Aside0.mk (Kd.R_lower (Kd.R_new' ho1 (Kd.R_lt HO267.out)) (below_size HB.out))
        have n4_ := Aside0.mk (blk_below BK253.out hb)
        have n5_ := Aside0.mk (blk_below BK254.out hb)
        have n6_ := Aside0.mk (below_step HB.out hb)
        clear HO264
        clear HO267
        clear BK253
        clear BK254
        clear HB
        have HO264 := n0_
        have HO267 := n1_
        have HO270 := n2_
        have HO273 := n3_
        have BK253 := n4_
        have BK254 := n5_
        have HB := n6_
        clear n0_ n1_ n2_ n3_ n4_ n5_ n6_
        (try clear hb)
        (try clear hb2)
        (try clear hk)
        (try clear hi)
        (try clear ho0)
        (try clear ho1)
        refine hK.out _ _ ⟨(blk_cell BK253.out 0).trans rfl, (blk_cell BK253.out 1).trans rfl, (blk_cell BK253.out 2).trans rfl, (blk_cell BK253.out 3).trans rfl, (blk_cell BK253.out 4).trans rfl, (blk_cell BK253.out 5).trans rfl, (blk_cell BK254.out 0).trans rfl, (blk_cell BK254.out 1).trans rfl⟩ (fun hHeld => ?_)
        clear hK K
        refine norm_ (a' := ?_) ?_ ?_
        rotate_left
        ·show Act.put _ (some 22) _ = _
         simp only [Act.put, List.setIfInBounds_toArray, List.set_cons_zero, List.set_cons_succ, i64_w, i32_w]
         rfl
        refine one_ (i := 5) (N := some 6) #[true, true, true, true, true, true, false] rfl rfl (by kernel_rfl) (by decide) (fun K hK => ?_)
        refine box_step ?hg (N := 6) ?hd (cs := #[.slice none 0 0, .slice none 0 0]) (t := 50) ?hr ?_; (case hd => rfl); (case hg => rfl); (case hr => first | (go_simp; done) | (go_simp; rfl))
        intro gb274 hg w34 hbox hb
        have n0_ := Aside0.mk (Kd.R_below HO264.out hb)
        have n1_ := Aside0.mk (Kd.R_below HO267.out hb)
        have n2_ := Aside0.mk (Kd.R_below HO270.out hb)
        have n3_ := Aside0.mk (Kd.R_below HO273.out hb)
        have n4_ := Aside0.mk (blk_below BK253.out hb)
        have n5_ := Aside0.mk (blk_below BK254.out hb)
        have n6_ := Aside0.mk (below_step HB.out hb)
        have n7_ := Aside0.mk (hbox)
        have n8_ := Aside0.mk ((by rw [hg]; exact (below_size HB.out) : w.heap.size ≤ gb274))
        have n9_ := Aside0.mk ((by rw [hg]; exact (below_size HB.out) : w.heap.size ≤ gb274))
        have n10_ := Aside0.mk ((by rw [hg]; exact Nat.ne_of_lt (blk_lt BK253.out) : gb253 ≠ gb274))
        have n11_ := Aside0.mk ((by rw [hg]; exact Nat.ne_of_gt (blk_lt BK253.out) : gb274 ≠ gb253))
        have n12_ := Aside0.mk ((by rw [hg]; exact Nat.ne_of_lt (blk_lt BK254.out) : gb254 ≠ gb274))
        have n13_ := Aside0.mk ((by rw [hg]; exact Nat.ne_of_gt (blk_lt BK254.out) : gb274 ≠ gb254))
        clear HO264
        clear HO267
        clear HO270
        clear HO273
        clear BK253
        clear BK254
        clear HB
        have HO264 := n0_
        have HO267 := n1_
        have HO270 := n2_
        have HO273 := n3_
        have BK253 := n4_
        have BK254 := n5_
        have HB := n6_
        have BK274 := n7_
        have GW274 := n8_
        have GE274 := n9_
        have NB253_274 := n10_
        have NB274_253 := n11_
        have NB254_274 := n12_
        have NB274_254 := n13_
        clear n0_ n1_ n2_ n3_ n4_ n5_ n6_ n7_ n8_ n9_ n10_ n11_ n12_ n13_
        clear hb hbox hg
        refine hK.out _ _ ⟨(blk_cell BK253.out 0).trans rfl, (blk_cell BK253.out 1).trans rfl, (blk_cell BK253.out 2).trans rfl, (blk_cell BK253.out 3).trans rfl, (blk_cell BK253.out 4).trans rfl, (blk_cell BK253.out 5).trans rfl, (blk_cell BK254.out 0).trans rfl, (blk_cell BK254.out 1).trans rfl⟩ (fun hHeld => ?_)
        clear hK K
        refine norm_ (a' := ?_) ?_ ?_
        rotate_left
        ·show Act.put _ (some 6) _ = _
         simp only [Act.put, List.setIfInBounds_toArray, List.set_cons_zero, List.set_cons_succ, i64_w, i32_w]
         rfl
        exact norm_ (by simp only [putAll, Act.put, List.setIfInBounds_toArray, List.set_cons_zero, List.set_cons_succ]) (hCont (.slice Ao31 t262.length co31, .slice Ao32 t265.length co32, v269, v272, gb274) _ ⟨hHeld, (Kd.R_mono HO264.out (fun _ hk => hk.2)), (Kd.R_mono HO267.out (fun _ hk => hk.2)), (Kd.R_mono HO270.out (fun _ hk => hk.2)), (Kd.R_mono HO273.out (fun _ hk => hk.2)), BK253.out, BK254.out, BK274.out, GW274.out, GE274.out, NB253_274.out, NB274_253.out, NB254_274.out, NB274_254.out, HB.out⟩)
       ·skip
        refine box_step ?hg (N := 6) ?hd (cs := #[.slice none 0 0, .slice none 0 0]) (t := 50) ?hr ?_; (case hd => rfl); (case hg => rfl); (case hr => first | (go_simp; done) | (go_simp; rfl))
        intro gb274 hg w31 hbox hb
        have n0_ := Aside0.mk (Kd.R_below HO264.out hb)
        have n1_ := Aside0.mk (Kd.R_below HO267.out hb)
        have n2_ := Aside0.mk (blk_below BK253.out hb)
        have n3_ := Aside0.mk (blk_below BK254.out hb)
        have n4_ := Aside0.mk (below_step HB.out hb)
        have n5_ := Aside0.mk (hbox)
        have n6_ := Aside0.mk ((by rw [hg]; exact (below_size HB.out) : w.heap.size ≤ gb274))
        have n7_ := Aside0.mk ((by rw [hg]; exact (below_size HB.out) : w.heap.size ≤ gb274))
        have n8_ := Aside0.mk ((by rw [hg]; exact Nat.ne_of_lt (blk_lt BK253.out) : gb253 ≠ gb274))
        have n9_ := Aside0.mk ((by rw [hg]; exact Nat.ne_of_gt (blk_lt BK253.out) : gb274 ≠ gb253))
        have n10_ := Aside0.mk ((by rw [hg]; exact Nat.ne_of_lt (blk_lt BK254.out) : gb254 ≠ gb274))
        have n11_ := Aside0.mk ((by rw [hg]; exact Nat.ne_of_gt (blk_lt BK254.out) : gb274 ≠ gb254))
        clear HO264
        clear HO267
        clear BK253
        clear BK254
        clear HB
        have HO264 := n0_
        have HO267 := n1_
        have BK253 := n2_
        have BK254 := n3_
        have HB := n4_
        have BK274 := n5_
        have GW274 := n6_
        have GE274 := n7_
        have NB253_274 := n8_
        have NB274_253 := n9_
        have NB254_274 := n10_
        have NB274_254 := n11_
        clear n0_ n1_ n2_ n3_ n4_ n5_ n6_ n7_ n8_ n9_ n10_ n11_
        clear hb hbox hg
        obtain ⟨Ao32, co32, eo32⟩ := Kd.R_slice HO264.out
        (first | subst eo32 | (injection eo32 with f1_ f2_ f3_; have f4_ := f1_.symm; have f5_ := f3_.symm; clear f1_ f2_ f3_; subst f4_; subst f5_))
        obtain ⟨Ao33, co33, eo33⟩ := Kd.R_slice HO267.out
        (first | subst eo33 | (injection eo33 with f1_ f2_ f3_; have f4_ := f1_.symm; have f5_ := f3_.symm; clear f1_ f2_ f3_; subst f4_; subst f5_))
        refine hK.out _ _ ⟨(blk_cell BK253.out 0).trans rfl, (blk_cell BK253.out 1).trans rfl, (blk_cell BK253.out 2).trans rfl, (blk_cell BK253.out 3).trans rfl, (blk_cell BK253.out 4).trans rfl, (blk_cell BK253.out 5).trans rfl, (blk_cell BK254.out 0).trans rfl, (blk_cell BK254.out 1).trans rfl⟩ (fun hHeld => ?_)
        clear hK K
        refine norm_ (a' := ?_) ?_ ?_
        rotate_left
        ·show Act.put _ (some 6) _ = _
         simp only [Act.put, List.setIfInBounds_toArray, List.set_cons_zero, List.set_cons_succ, i64_w, i32_w]
         rfl
        refine one_ (i := 4) (N := some 22) #[true, true, true, true, true, true, false] rfl rfl (by kernel_rfl) (by decide) (fun K hK => ?_)
        refine goes_ Try.func59 (by kernel_rfl) rfl #[.agg #[.int .i64 t256, .int .i64 t257, .int .i64 t258, .int .i64 t259, .int .i64 t260, .int .i64 t261], .agg #[.slice Ao32 t262.length co32, .slice Ao33 t265.length co33]] (by rfl) rfl rfl (by (try simp only [List.map_toArray, List.map_cons, List.map_nil]); first | done | rfl | (simp only [List.length_drop, List.length_take]; rfl)) ?_
        with_reducible refine (spec_MovePath.calls k t256 t257 t258 t259 t260 t261 _ _ t262 _ _ t265 t268 t271 _ ?side1 ?side2 ?side3 ?side4 A12.out).mono ?_
        (case side1 => exact (Kd.R_reads' HO264.out).2.2)
        (case side2 => exact (Kd.R_reads' HO264.out).2.1)
        (case side3 => exact (Kd.R_reads' HO267.out).2.2)
        (case side4 => exact (Kd.R_reads' HO267.out).2.1)
        rintro e w34 ⟨v269, v272, rfl, ho0, ho1, hb⟩
        refine ⟨_, rfl, ?_⟩
        have n0_ := Aside0.mk (Kd.R_elder' HO264.out (Kd.R_base ho0) hb)
        have n1_ := Aside0.mk (Kd.R_elder' HO267.out (Kd.R_base ho1) hb)
        have n2_ := Aside0.mk (Kd.R_lower (Kd.R_new' ho0 (Kd.R_lt HO264.out)) (below_size HB.out))
        have n3_ := Aside0.mk (Kd.R_lower (Kd.R_new' ho1 (Kd.R_lt HO267.out)) (below_size HB.out))
        have n4_ := Aside0.mk (blk_below BK253.out hb)
        have n5_ := Aside0.mk (blk_below BK254.out hb)
        have n6_ := Aside0.mk (blk_below BK274.out hb)
        have n7_ := Aside0.mk (below_step HB.out hb)
        clear HO264
        clear HO267
        clear BK253
        clear BK254
        clear BK274
        clear HB
        have HO264 := n0_
        have HO267 := n1_
        have HO270 := n2_
        have HO273 := n3_
        have BK253 := n4_
        have BK254 := n5_
        have BK274 := n6_
        have HB := n7_
        clear n0_ n1_ n2_ n3_ n4_ n5_ n6_ n7_
        (try clear hb)
        (try clear hb2)
        (try clear hk)
        (try clear hi)
        (try clear ho0)
        (try clear ho1)
        refine hK.out _ _ ⟨(blk_cell BK253.out 0).trans rfl, (blk_cell BK253.out 1).trans rfl, (blk_cell BK253.out 2).trans rfl, (blk_cell BK253.out 3).trans rfl, (blk_cell BK253.out 4).trans rfl, (blk_cell BK253.out 5).trans rfl, (blk_cell BK254.out 0).trans rfl, (blk_cell BK254.out 1).trans rfl⟩ (fun hHeld => ?_)
        clear hK K
        refine norm_ (a' := ?_) ?_ ?_
        rotate_left
        ·show Act.put _ (some 22) _ = _
         simp only [Act.put, List.setIfInBounds_toArray, List.set_cons_zero, List.set_cons_succ, i64_w, i32_w]
         rfl
        exact norm_ (by simp only [putAll, Act.put, List.setIfInBounds_toArray, List.set_cons_zero, List.set_cons_succ]) (hCont (.slice Ao32 t262.length co32, .slice Ao33 t265.length co33, v269, v272, gb274) _ ⟨hHeld, (Kd.R_mono HO264.out (fun _ hk => hk.2)), (Kd.R_mono HO267.out (fun _ hk => hk.2)), (Kd.R_mono HO270.out (fun _ hk => hk.2)), (Kd.R_mono HO273.out (fun _ hk => hk.2)), BK253.out, BK254.out, BK274.out, GW274.out, GE274.out, NB253_274.out, NB274_253.out, NB254_274.out, NB274_254.out, HB.out⟩)
      ·skip
       refine box_step ?hg (N := 6) ?hd (cs := #[.slice none 0 0, .slice none 0 0]) (t := 50) ?hr ?_; (case hd => rfl); (case hg => rfl); (case hr => first | (go_simp; done) | (go_simp; rfl))
       intro gb274 hg w30 hbox hb
       have n0_ := Aside0.mk (blk_below BK253.out hb)
       have n1_ := Aside0.mk (blk_below BK254.out hb)
       have n2_ := Aside0.mk (below_step HB.out hb)
       have n3_ := Aside0.mk (hbox)
       have n4_ := Aside0.mk ((by rw [hg]; exact (below_size HB.out) : w.heap.size ≤ gb274))
       have n5_ := Aside0.mk ((by rw [hg]; exact (below_size HB.out) : w.heap.size ≤ gb274))
       have n6_ := Aside0.mk ((by rw [hg]; exact Nat.ne_of_lt (blk_lt BK253.out) : gb253 ≠ gb274))
       have n7_ := Aside0.mk ((by rw [hg]; exact Nat.ne_of_gt (blk_lt BK253.out) : gb274 ≠ gb253))
       have n8_ := Aside0.mk ((by rw [hg]; exact Nat.ne_of_lt (blk_lt BK254.out) : gb254 ≠ gb274))
       have n9_ := Aside0.mk ((by rw [hg]; exact Nat.ne_of_gt (blk_lt BK254.out) : gb274 ≠ gb254))
       clear BK253
       clear BK254
       clear HB
       have BK253 := n0_
       have BK254 := n1_
       have HB := n2_
       have BK274 := n3_
       have GW274 := n4_
       have GE274 := n5_
       have NB253_274 := n6_
       have NB274_253 := n7_
       have NB254_274 := n8_
       have NB274_254 := n9_
       clear n0_ n1_ n2_ n3_ n4_ n5_ n6_ n7_ n8_ n9_
       clear hb hbox hg
       refine hK.out _ _ ⟨(blk_cell BK253.out 0).trans rfl, (blk_cell BK253.out 1).trans rfl, (blk_cell BK253.out 2).trans rfl, (blk_cell BK253.out 3).trans rfl, (blk_cell BK253.out 4).trans rfl, (blk_cell BK253.out 5).trans rfl, (blk_cell BK254.out 0).trans rfl, (blk_cell BK254.out 1).trans rfl⟩ (fun hHeld => ?_)
       clear hK K
       refine norm_ (a' := ?_) ?_ ?_
       rotate_left
       ·show Act.put _ (some 6) _ = _
        simp only [Act.put, List.setIfInBounds_toArray, List.set_cons_zero, List.set_cons_succ, i64_w, i32_w]
        rfl
       refine one_ (i := 3) (N := some 21) #[true, true, true, true, false, true, false] rfl rfl (by kernel_rfl) (by decide) (fun K hK => ?_)
       refine goes_ Try.func44 (by kernel_rfl) rfl #[.agg #[.slice A1_0 l1_0.length c1_0, .slice A1_1 l1_1.length c1_1]] (by rfl) rfl rfl (by (try simp only [List.map_toArray, List.map_cons, List.map_nil]); first | done | rfl | (simp only [List.length_drop, List.length_take]; rfl)) ?_
       with_reducible refine (laws_toPath.calls k _ _ l1_0 _ _ l1_1 t262 t265 _ ?side1 ?side2 ?side3 ?side4 A11.out).mono ?_
       (case side1 => exact (Kd.C_below HR1_0.out HB.out))
       (case side2 => exact HC1_0.out)
       (case side3 => exact (Kd.C_below HR1_1.out HB.out))
       (case side4 => exact HC1_1.out)
       rintro e w31 ⟨v263, v266, rfl, ho0, ho1, hb⟩
       refine ⟨_, rfl, ?_⟩
       have n0_ := Aside0.mk (Kd.R_lower ho0 (below_size HB.out))
       have n1_ := Aside0.mk (Kd.R_lower ho1 (below_size HB.out))
       have n2_ := Aside0.mk (blk_below BK253.out hb)
       have n3_ := Aside0.mk (blk_below BK254.out hb)
       have n4_ := Aside0.mk (blk_below BK274.out hb)
       have n5_ := Aside0.mk (below_step HB.out hb)
       clear BK253
       clear BK254
       clear BK274
       clear HB
       have HO264 := n0_
       have HO267 := n1_
       have BK253 := n2_
       have BK254 := n3_
       have BK274 := n4_
       have HB := n5_
       clear n0_ n1_ n2_ n3_ n4_ n5_
       (try clear hb)
       (try clear hb2)
       (try clear hk)
       (try clear hi)
       (try clear ho0)
       (try clear ho1)
       obtain ⟨Ao32, co32, eo32⟩ := Kd.R_slice HO264.out
       (first | subst eo32 | (injection eo32 with f1_ f2_ f3_; have f4_ := f1_.symm; have f5_ := f3_.symm; clear f1_ f2_ f3_; subst f4_; subst f5_))
       obtain ⟨Ao33, co33, eo33⟩ := Kd.R_slice HO267.out
       (first | subst eo33 | (injection eo33 with f1_ f2_ f3_; have f4_ := f1_.symm; have f5_ := f3_.symm; clear f1_ f2_ f3_; subst f4_; subst f5_))
       refine hK.out _ _ ⟨(blk_cell BK253.out 0).trans rfl, (blk_cell BK253.out 1).trans rfl, (blk_cell BK253.out 2).trans rfl, (blk_cell BK253.out 3).trans rfl, (blk_cell BK253.out 4).trans rfl, (blk_cell BK253.out 5).trans rfl, (blk_cell BK254.out 0).trans rfl, (blk_cell BK254.out 1).trans rfl⟩ (fun hHeld => ?_)
       clear hK K
       refine norm_ (a' := ?_) ?_ ?_
       rotate_left
       ·show Act.put _ (some 21) _ = _
        simp only [Act.put, List.setIfInBounds_toArray, List.set_cons_zero, List.set_cons_succ, i64_w, i32_w]
        rfl
       refine one_ (i := 4) (N := some 22) #[true, true, true, true, true, true, false] rfl rfl (by kernel_rfl) (by decide) (fun K hK => ?_)
       refine goes_ Try.func59 (by kernel_rfl) rfl #[.agg #[.int .i64 t256, .int .i64 t257, .int .i64 t258, .int .i64 t259, .int .i64 t260, .int .i64 t261], .agg #[.slice Ao32 t262.length co32, .slice Ao33 t265.length co33]] (by rfl) rfl rfl (by (try simp only [List.map_toArray, List.map_cons, List.map_nil]); first | done | rfl | (simp only [List.length_drop, List.length_take]; rfl)) ?_
       with_reducible refine (spec_MovePath.calls k t256 t257 t258 t259 t260 t261 _ _ t262 _ _ t265 t268 t271 _ ?side1 ?side2 ?side3 ?side4 A12.out).mono ?_
       (case side1 => exact (Kd.R_reads' HO264.out).2.2)
       (case side2 => exact (Kd.R_reads' HO264.out).2.1)
       (case side3 => exact (Kd.R_reads' HO267.out).2.2)
       (case side4 => exact (Kd.R_reads' HO267.out).2.1)
       rintro e w34 ⟨v269, v272, rfl, ho0, ho1, hb⟩
       refine ⟨_, rfl, ?_⟩
       have n0_ := Aside0.mk (Kd.R_elder' HO264.out (Kd.R_base ho0) hb)
       have n1_ := Aside0.mk (Kd.R_elder' HO267.out (Kd.R_base ho1) hb)
       have n2_ := Aside0.mk (Kd.R_lower (Kd.R_new' ho0 (Kd.R_lt HO264.out)) (below_size HB.out))
       have n3_ := Aside0.mk (Kd.R_lower (Kd.R_new' ho1 (Kd.R_lt HO267.out)) (below_size HB.out))
       have n4_ := Aside0.mk (blk_below BK253.out hb)
       have n5_ := Aside0.mk (blk_below BK254.out hb)
       have n6_ := Aside0.mk (blk_below BK274.out hb)
       have n7_ := Aside0.mk (below_step HB.out hb)
       clear HO264
       clear HO267
       clear BK253
       clear BK254
       clear BK274
       clear HB
       have HO264 := n0_
       have HO267 := n1_
       have HO270 := n2_
       have HO273 := n3_
       have BK253 := n4_
       have BK254 := n5_
       have BK274 := n6_
       have HB := n7_
       clear n0_ n1_ n2_ n3_ n4_ n5_ n6_ n7_
       (try clear hb)
       (try clear hb2)
       (try clear hk)
       (try clear hi)
       (try clear ho0)
       (try clear ho1)
       refine hK.out _ _ ⟨(blk_cell BK253.out 0).trans rfl, (blk_cell BK253.out 1).trans rfl, (blk_cell BK253.out 2).trans rfl, (blk_cell BK253.out 3).trans rfl, (blk_cell BK253.out 4).trans rfl, (blk_cell BK253.out 5).trans rfl, (blk_cell BK254.out 0).trans rfl, (blk_cell BK254.out 1).trans rfl⟩ (fun hHeld => ?_)
       clear hK K
       refine norm_ (a' := ?_) ?_ ?_
       rotate_left
       ·show Act.put _ (some 22) _ = _
        simp only [Act.put, List.setIfInBounds_toArray, List.set_cons_zero, List.set_cons_succ, i64_w, i32_w]
        rfl
       exact norm_ (by simp only [putAll, Act.put, List.setIfInBounds_toArray, List.set_cons_zero, List.set_cons_succ]) (hCont (.slice Ao32 t262.length co32, .slice Ao33 t265.length co33, v269, v272, gb274) _ ⟨hHeld, (Kd.R_mono HO264.out (fun _ hk => hk.2)), (Kd.R_mono HO267.out (fun _ hk => hk.2)), (Kd.R_mono HO270.out (fun _ hk => hk.2)), (Kd.R_mono HO273.out (fun _ hk => hk.2)), BK253.out, BK254.out, BK274.out, GW274.out, GE274.out, NB253_274.out, NB274_253.out, NB254_274.out, NB274_254.out, HB.out⟩)
     ·skip
      refine box_step ?hg (N := 6) ?hd (cs := #[.slice none 0 0, .slice none 0 0]) (t := 50) ?hr ?_; (case hd => rfl); (case hg => rfl); (case hr => first | (go_simp; done) | (go_simp; rfl))
      intro gb274 hg w29 hbox hb
      have n0_ := Aside0.mk (blk_below BK253.out hb)
      have n1_ := Aside0.mk (blk_below BK254.out hb)
      have n2_ := Aside0.mk (below_step HB.out hb)
      have n3_ := Aside0.mk (hbox)
      have n4_ := Aside0.mk ((by rw [hg]; exact (below_size HB.out) : w.heap.size ≤ gb274))
      have n5_ := Aside0.mk ((by rw [hg]; exact (below_size HB.out) : w.heap.size ≤ gb274))
      have n6_ := Aside0.mk ((by rw [hg]; exact Nat.ne_of_lt (blk_lt BK253.out) : gb253 ≠ gb274))
      have n7_ := Aside0.mk ((by rw [hg]; exact Nat.ne_of_gt (blk_lt BK253.out) : gb274 ≠ gb253))
      have n8_ := Aside0.mk ((by rw [hg]; exact Nat.ne_of_lt (blk_lt BK254.out) : gb254 ≠ gb274))
      have n9_ := Aside0.mk ((by rw [hg]; exact Nat.ne_of_gt (blk_lt BK254.out) : gb274 ≠ gb254))
      clear BK253
      clear BK254
      clear HB
      have BK253 := n0_
      have BK254 := n1_
      have HB := n2_
      have BK274 := n3_
      have GW274 := n4_
      have GE274 := n5_
      have NB253_274 := n6_
      have NB274_253 := n7_
      have NB254_274 := n8_
      have NB274_254 := n9_
      clear n0_ n1_ n2_ n3_ n4_ n5_ n6_ n7_ n8_ n9_
      clear hb hbox hg
      refine hK.out _ _ ⟨(blk_cell BK253.out 0).trans rfl, (blk_cell BK253.out 1).trans rfl, (blk_cell BK253.out 2).trans rfl, (blk_cell BK253.out 3).trans rfl, (blk_cell BK253.out 4).trans rfl, (blk_cell BK253.out 5).trans rfl, (blk_cell BK254.out 0).trans rfl, (blk_cell BK254.out 1).trans rfl⟩ (fun hHeld => ?_)
      clear hK K
      refine norm_ (a' := ?_) ?_ ?_
      rotate_left
      ·show Act.put _ (some 6) _ = _
       simp only [Act.put, List.setIfInBounds_toArray, List.set_cons_zero, List.set_cons_succ, i64_w, i32_w]
       rfl
      refine one_ (i := 1) (N := some 19) #[true, true, true, false, false, true, false] rfl rfl (by kernel_rfl) (by decide) (fun K hK => ?_)
      refine goes_ Try.func21 (by kernel_rfl) rfl #[.agg #[.int .i64 a0_0, .int .i64 a0_1, .int .i64 a0_2, .int .i64 a0_3, .int .i64 a0_4, .int .i64 a0_5]] (by rfl) rfl rfl (by (try simp only [List.map_toArray, List.map_cons, List.map_nil]); first | done | rfl | (simp only [List.length_drop, List.length_take]; rfl)) ?_
      with_reducible refine (laws_toMat.calls a0_0 a0_1 a0_2 a0_3 a0_4 a0_5 t256 t257 t258 t259 t260 t261 _ A10.out).mono ?_
      rintro e w30 ⟨rfl, hb⟩
      refine ⟨_, rfl, ?_⟩
      have n0_ := Aside0.mk (blk_below BK253.out hb)
      have n1_ := Aside0.mk (blk_below BK254.out hb)
      have n2_ := Aside0.mk (blk_below BK274.out hb)
      have n3_ := Aside0.mk (below_step HB.out hb)
      clear BK253
      clear BK254
      clear BK274
      clear HB
      have BK253 := n0_
      have BK254 := n1_
      have BK274 := n2_
      have HB := n3_
      clear n0_ n1_ n2_ n3_
      (try clear hb)
      (try clear hb2)
      (try clear hk)
      (try clear hi)
      refine hK.out _ _ ⟨(blk_cell BK253.out 0).trans rfl, (blk_cell BK253.out 1).trans rfl, (blk_cell BK253.out 2).trans rfl, (blk_cell BK253.out 3).trans rfl, (blk_cell BK253.out 4).trans rfl, (blk_cell BK253.out 5).trans rfl, (blk_cell BK254.out 0).trans rfl, (blk_cell BK254.out 1).trans rfl⟩ (fun hHeld => ?_)
      clear hK K
      refine norm_ (a' := ?_) ?_ ?_
      rotate_left
      ·show Act.put _ (some 19) _ = _
       simp only [Act.put, List.setIfInBounds_toArray, List.set_cons_zero, List.set_cons_succ, i64_w, i32_w]
       rfl
      refine one_ (i := 3) (N := some 21) #[true, true, true, true, false, true, false] rfl rfl (by kernel_rfl) (by decide) (fun K hK => ?_)
      refine goes_ Try.func44 (by kernel_rfl) rfl #[.agg #[.slice A1_0 l1_0.length c1_0, .slice A1_1 l1_1.length c1_1]] (by rfl) rfl rfl (by (try simp only [List.map_toArray, List.map_cons, List.map_nil]); first | done | rfl | (simp only [List.length_drop, List.length_take]; rfl)) ?_
      with_reducible refine (laws_toPath.calls k _ _ l1_0 _ _ l1_1 t262 t265 _ ?side1 ?side2 ?side3 ?side4 A11.out).mono ?_
      (case side1 => exact (Kd.C_below HR1_0.out HB.out))
      (case side2 => exact HC1_0.out)
      (case side3 => exact (Kd.C_below HR1_1.out HB.out))
      (case side4 => exact HC1_1.out)
      rintro e w31 ⟨v263, v266, rfl, ho0, ho1, hb⟩
      refine ⟨_, rfl, ?_⟩
      have n0_ := Aside0.mk (Kd.R_lower ho0 (below_size HB.out))
      have n1_ := Aside0.mk (Kd.R_lower ho1 (below_size HB.out))
      have n2_ := Aside0.mk (blk_below BK253.out hb)
      have n3_ := Aside0.mk (blk_below BK254.out hb)
      have n4_ := Aside0.mk (blk_below BK274.out hb)
      have n5_ := Aside0.mk (below_step HB.out hb)
      clear BK253
      clear BK254
      clear BK274
      clear HB
      have HO264 := n0_
      have HO267 := n1_
      have BK253 := n2_
      have BK254 := n3_
      have BK274 := n4_
      have HB := n5_
      clear n0_ n1_ n2_ n3_ n4_ n5_
      (try clear hb)
      (try clear hb2)
      (try clear hk)
      (try clear hi)
      (try clear ho0)
      (try clear ho1)
      obtain ⟨Ao32, co32, eo32⟩ := Kd.R_slice HO264.out
      (first | subst eo32 | (injection eo32 with f1_ f2_ f3_; have f4_ := f1_.symm; have f5_ := f3_.symm; clear f1_ f2_ f3_; subst f4_; subst f5_))
      obtain ⟨Ao33, co33, eo33⟩ := Kd.R_slice HO267.out
      (first | subst eo33 | (injection eo33 with f1_ f2_ f3_; have f4_ := f1_.symm; have f5_ := f3_.symm; clear f1_ f2_ f3_; subst f4_; subst f5_))
      refine hK.out _ _ ⟨(blk_cell BK253.out 0).trans rfl, (blk_cell BK253.out 1).trans rfl, (blk_cell BK253.out 2).trans rfl, (blk_cell BK253.out 3).trans rfl, (blk_cell BK253.out 4).trans rfl, (blk_cell BK253.out 5).trans rfl, (blk_cell BK254.out 0).trans rfl, (blk_cell BK254.out 1).trans rfl⟩ (fun hHeld => ?_)
      clear hK K
      refine norm_ (a' := ?_) ?_ ?_
      rotate_left
      ·show Act.put _ (some 21) _ = _
       simp only [Act.put, List.setIfInBounds_toArray, List.set_cons_zero, List.set_cons_succ, i64_w, i32_w]
       rfl
      refine one_ (i := 4) (N := some 22) #[true, true, true, true, true, true, false] rfl rfl (by kernel_rfl) (by decide) (fun K hK => ?_)
      refine goes_ Try.func59 (by kernel_rfl) rfl #[.agg #[.int .i64 t256, .int .i64 t257, .int .i64 t258, .int .i64 t259, .int .i64 t260, .int .i64 t261], .agg #[.slice Ao32 t262.length co32, .slice Ao33 t265.length co33]] (by rfl) rfl rfl (by (try simp only [List.map_toArray, List.map_cons, List.map_nil]); first | done | rfl | (simp only [List.length_drop, List.length_take]; rfl)) ?_
      with_reducible refine (spec_MovePath.calls k t256 t257 t258 t259 t260 t261 _ _ t262 _ _ t265 t268 t271 _ ?side1 ?side2 ?side3 ?side4 A12.out).mono ?_
      (case side1 => exact (Kd.R_reads' HO264.out).2.2)
      (case side2 => exact (Kd.R_reads' HO264.out).2.1)
      (case side3 => exact (Kd.R_reads' HO267.out).2.2)
      (case side4 => exact (Kd.R_reads' HO267.out).2.1)
      rintro e w34 ⟨v269, v272, rfl, ho0, ho1, hb⟩
      refine ⟨_, rfl, ?_⟩
      have n0_ := Aside0.mk (Kd.R_elder' HO264.out (Kd.R_base ho0) hb)
      have n1_ := Aside0.mk (Kd.R_elder' HO267.out (Kd.R_base ho1) hb)
      have n2_ := Aside0.mk (Kd.R_lower (Kd.R_new' ho0 (Kd.R_lt HO264.out)) (below_size HB.out))
      have n3_ := Aside0.mk (Kd.R_lower (Kd.R_new' ho1 (Kd.R_lt HO267.out)) (below_size HB.out))
      have n4_ := Aside0.mk (blk_below BK253.out hb)
      have n5_ := Aside0.mk (blk_below BK254.out hb)
      have n6_ := Aside0.mk (blk_below BK274.out hb)
      have n7_ := Aside0.mk (below_step HB.out hb)
      clear HO264
      clear HO267
      clear BK253
      clear BK254
      clear BK274
      clear HB
      have HO264 := n0_
      have HO267 := n1_
      have HO270 := n2_
      have HO273 := n3_
      have BK253 := n4_
      have BK254 := n5_
      have BK274 := n6_
      have HB := n7_
      clear n0_ n1_ n2_ n3_ n4_ n5_ n6_ n7_
      (try clear hb)
      (try clear hb2)
      (try clear hk)
      (try clear hi)
      (try clear ho0)
      (try clear ho1)
      refine hK.out _ _ ⟨(blk_cell BK253.out 0).trans rfl, (blk_cell BK253.out 1).trans rfl, (blk_cell BK253.out 2).trans rfl, (blk_cell BK253.out 3).trans rfl, (blk_cell BK253.out 4).trans rfl, (blk_cell BK253.out 5).trans rfl, (blk_cell BK254.out 0).trans rfl, (blk_cell BK254.out 1).trans rfl⟩ (fun hHeld => ?_)
      clear hK K
      refine norm_ (a' := ?_) ?_ ?_
      rotate_left
      ·show Act.put _ (some 22) _ = _
       simp only [Act.put, List.setIfInBounds_toArray, List.set_cons_zero, List.set_cons_succ, i64_w, i32_w]
       rfl
      exact norm_ (by simp only [putAll, Act.put, List.setIfInBounds_toArray, List.set_cons_zero, List.set_cons_succ]) (hCont (.slice Ao32 t262.length co32, .slice Ao33 t265.length co33, v269, v272, gb274) _ ⟨hHeld, (Kd.R_mono HO264.out (fun _ hk => hk.2)), (Kd.R_mono HO267.out (fun _ hk => hk.2)), (Kd.R_mono HO270.out (fun _ hk => hk.2)), (Kd.R_mono HO273.out (fun _ hk => hk.2)), BK253.out, BK254.out, BK274.out, GW274.out, GE274.out, NB253_274.out, NB274_253.out, NB254_274.out, NB274_254.out, HB.out⟩)
    rintro ⟨v263, v266, v269, v272, gb274⟩ w35 ⟨hS_, h0_, h1_, h2_, h3_, h4_, h5_, h6_, h7_, h8_, h9_, h10_, h11_, h12_, h13_⟩
    have n0_ : Aside0 (Kd.R (Kd.int .i64) 3 w35 w.heap.size (fun k_ => some k_ ≠ (v269 : Value).ownBlock) v263 t262) := ⟨h0_⟩
    have n1_ : Aside0 (Kd.R k24 24 w35 w.heap.size (fun k_ => some k_ ≠ (v272 : Value).ownBlock) v266 t265) := ⟨h1_⟩
    have n2_ : Aside0 (Kd.R (Kd.int .i64) 3 w35 w.heap.size (fun k_ => some k_ ≠ (v263 : Value).ownBlock) v269 t268) := ⟨h2_⟩
    have n3_ : Aside0 (Kd.R k24 24 w35 w.heap.size (fun k_ => some k_ ≠ (v266 : Value).ownBlock) v272 t271) := ⟨h3_⟩
    have n4_ : Aside0 (w35.heap[gb253]? = some (.cells #[.int .i64 a0_0, .int .i64 a0_1, .int .i64 a0_2, .int .i64 a0_3, .int .i64 a0_4, .int .i64 a0_5] 32 (0, 0))) := ⟨h4_⟩
    have n5_ : Aside0 (w35.heap[gb254]? = some (.cells #[.slice A1_0 l1_0.length c1_0, .slice A1_1 l1_1.length c1_1] 64 (0, 0))) := ⟨h5_⟩
    have n6_ : Aside0 (w35.heap[gb274]? = some (.cells #[.slice none 0 0, .slice none 0 0] 50 (0, 0))) := ⟨h6_⟩
    have n7_ : Aside0 (w.heap.size ≤ gb274) := ⟨h7_⟩
    have n8_ : Aside0 (w.heap.size ≤ gb274) := ⟨h8_⟩
    have n9_ : Aside0 (gb253 ≠ gb274) := ⟨h9_⟩
    have n10_ : Aside0 (gb274 ≠ gb253) := ⟨h10_⟩
    have n11_ : Aside0 (gb254 ≠ gb274) := ⟨h11_⟩
    have n12_ : Aside0 (gb274 ≠ gb254) := ⟨h12_⟩
    have n13_ : Aside0 (Below w.heap.size w w35) := ⟨h13_⟩
    clear BK253
    clear BK254
    clear HB
    clear h0_ h1_ h2_ h3_ h4_ h5_ h6_ h7_ h8_ h9_ h10_ h11_ h12_ h13_
    have HO264 := n0_
    have HO267 := n1_
    have HO270 := n2_
    have HO273 := n3_
    have BK253 := n4_
    have BK254 := n5_
    have BK274 := n6_
    have GW274 := n7_
    have GE274 := n8_
    have NB253_274 := n9_
    have NB274_253 := n10_
    have NB254_274 := n11_
    have NB274_254 := n12_
    have HB := n13_
    clear n0_ n1_ n2_ n3_ n4_ n5_ n6_ n7_ n8_ n9_ n10_ n11_ n12_ n13_
    have hHeld : w35.cell? ⟨gb253, 0, none⟩ = some (.int .i64 a0_0) ∧ w35.cell? ⟨gb253, 1, none⟩ = some (.int .i64 a0_1) ∧ w35.cell? ⟨gb253, 2, none⟩ = some (.int .i64 a0_2) ∧ w35.cell? ⟨gb253, 3, none⟩ = some (.int .i64 a0_3) ∧ w35.cell? ⟨gb253, 4, none⟩ = some (.int .i64 a0_4) ∧ w35.cell? ⟨gb253, 5, none⟩ = some (.int .i64 a0_5) ∧ w35.cell? ⟨gb254, 0, none⟩ = some (.slice A1_0 l1_0.length c1_0) ∧ w35.cell? ⟨gb254, 1, none⟩ = some (.slice A1_1 l1_1.length c1_1) := hS_
    obtain ⟨Ao36, co36, eo36⟩ := Kd.R_slice HO270.out
    (first | subst eo36 | (injection eo36 with f1_ f2_ f3_; have f4_ := f1_.symm; have f5_ := f3_.symm; clear f1_ f2_ f3_; subst f4_; subst f5_))
    obtain ⟨Ao38, co38, eo38⟩ := Kd.R_slice HO273.out
    (first | subst eo38 | (injection eo38 with f1_ f2_ f3_; have f4_ := f1_.symm; have f5_ := f3_.symm; clear f1_ f2_ f3_; subst f4_; subst f5_))
    refine norm_ (a' := ?_) ?_ ?_
    rotate_left
    ·simp only [putAll, Act.put, List.setIfInBounds_toArray, List.set_cons_zero, List.set_cons_succ]
     rfl
    refine one_ (i := 6) (N := none) #[true, true, true, true, true, true, true] rfl rfl (by kernel_rfl) (by decide) (fun K hK => ?_)
    have hs37 : w35.cell? ⟨gb274, 0, none⟩ = some (.slice none 0 0) := (blk_cell BK274.out 0).trans rfl
    have hfs37 := blk_frozen BK274.out 0
    have hns37_0 := NB253_274.out
    have hns37_1 := NB254_274.out
    have hms37_0 := NB274_253.out
    have hms37_1 := NB274_254.out
    have hs39 : w35.cell? ⟨gb274, 1, none⟩ = some (.slice none 0 0) := (blk_cell BK274.out 1).trans rfl
    have hfs39 := blk_frozen BK274.out 1
    have hns39_0 := NB253_274.out
    have hns39_1 := NB254_274.out
    have hms39_0 := NB274_253.out
    have hms39_1 := NB274_254.out
    refine skip_ (w1 := ?_) (by rfl) rfl ?_ ?_
    rotate_left
    ·go_simp
     rfl
    refine hK.out _ _ ⟨((cell_far (p := ⟨gb274, _, none⟩) NB253_274.out _).trans (((cell_far (p := ⟨gb274, _, none⟩) NB253_274.out _).trans (hHeld.1)))), ((cell_far (p := ⟨gb274, _, none⟩) NB253_274.out _).trans (((cell_far (p := ⟨gb274, _, none⟩) NB253_274.out _).trans (hHeld.2.1)))), ((cell_far (p := ⟨gb274, _, none⟩) NB253_274.out _).trans (((cell_far (p := ⟨gb274, _, none⟩) NB253_274.out _).trans (hHeld.2.2.1)))), ((cell_far (p := ⟨gb274, _, none⟩) NB253_274.out _).trans (((cell_far (p := ⟨gb274, _, none⟩) NB253_274.out _).trans (hHeld.2.2.2.1)))), ((cell_far (p := ⟨gb274, _, none⟩) NB253_274.out _).trans (((cell_far (p := ⟨gb274, _, none⟩) NB253_274.out _).trans (hHeld.2.2.2.2.1)))), ((cell_far (p := ⟨gb274, _, none⟩) NB253_274.out _).trans (((cell_far (p := ⟨gb274, _, none⟩) NB253_274.out _).trans (hHeld.2.2.2.2.2.1)))), ((cell_far (p := ⟨gb274, _, none⟩) NB254_274.out _).trans (((cell_far (p := ⟨gb274, _, none⟩) NB254_274.out _).trans (hHeld.2.2.2.2.2.2.1)))), ((cell_far (p := ⟨gb274, _, none⟩) NB254_274.out _).trans (((cell_far (p := ⟨gb274, _, none⟩) NB254_274.out _).trans (hHeld.2.2.2.2.2.2.2))))⟩ (fun hHeld => ?_)
    clear hK K
    refine done_ (by kernel_rfl) ?_
    have hnb40 := NB254_274.out
    have hnc40 := NB274_254.out
    have hcz41_0 : w35.cell? ⟨gb254, 0, none⟩ = some (.slice A1_0 l1_0.length c1_0) := (blk_cell BK254.out 0).trans rfl
    have hcz41_1 : w35.cell? ⟨gb254, 1, none⟩ = some (.slice A1_1 l1_1.length c1_1) := (blk_cell BK254.out 1).trans rfl
    have hfz41_0 := blk_frozen BK254.out 0
    have hfz41_1 := blk_frozen BK254.out 1
    try go_wp2_with (first | ((with_reducible refine gate_callee (f := 44) rfl ?_); refine goesL_ (some 24) rfl rfl Try.func44 (by kernel_rfl) rfl #[.agg #[.slice A1_0 l1_0.length c1_0, .slice A1_1 l1_1.length c1_1]] rfl (by (try simp only [List.map_toArray, List.map_cons, List.map_nil]); first | done | rfl | (simp only [List.length_drop, List.length_take]; rfl)) ?_; (with_reducible refine (laws_toPath.calls k _ _ l1_0 _ _ l1_1 t275 t278 _ ?side1 ?side2 ?side3 ?side4 A13.out).mono ?_); (case side1 => exact Kd.C_below HR1_0.out (by repeat (first | (with_reducible first | exact HB.out | apply below_alloc | apply pw_below_drewN | apply below_drew1 | refine below_set ?_ GE253.out | refine below_set ?_ GE254.out | refine below_set ?_ GE274.out) | exact HB.out))); (case side2 => exact HC1_0.out); (case side3 => exact Kd.C_below HR1_1.out (by repeat (first | (with_reducible first | exact HB.out | apply below_alloc | apply pw_below_drewN | apply below_drew1 | refine below_set ?_ GE253.out | refine below_set ?_ GE254.out | refine below_set ?_ GE274.out) | exact HB.out))); (case side4 => exact HC1_1.out); rintro e w42 ⟨v276, v279, rfl, ho0, ho1, hb⟩; refine ⟨_, rfl, ?_⟩; have n0_ := Aside0.mk (Kd.R_elder' (by (with_reducible repeat (first | apply Kd.R_alloc | apply Kd.R_drewN | apply Kd.R_drew)); exact (Kd.R_mono (Kd.R_far (p := ⟨gb274, 1, none⟩) (Kd.R_far (p := ⟨gb274, 0, none⟩) (Kd.R_types HO264.out BK274.out (by decide)) (fun _ hk => hk.2) (.slice Ao36 t268.length co36)) (fun _ hk => hk.2) (.slice Ao38 t271.length co38)) (fun _ h_ => h_.1))) (Kd.R_base ho0) hb); have n1_ := Aside0.mk (Kd.R_elder' (by (with_reducible repeat (first | apply Kd.R_alloc | apply Kd.R_drewN | apply Kd.R_drew)); exact (Kd.R_mono (Kd.R_far (p := ⟨gb274, 1, none⟩) (Kd.R_far (p := ⟨gb274, 0, none⟩) (Kd.R_types HO267.out BK274.out (by decide)) (fun _ hk => hk.2) (.slice Ao36 t268.length co36)) (fun _ hk => hk.2) (.slice Ao38 t271.length co38)) (fun _ h_ => h_.1))) (Kd.R_base ho1) hb); have n2_ := Aside0.mk (Kd.R_elder' (by (with_reducible repeat (first | apply Kd.R_alloc | apply Kd.R_drewN | apply Kd.R_drew)); exact (Kd.R_mono (Kd.R_far (p := ⟨gb274, 1, none⟩) (Kd.R_far (p := ⟨gb274, 0, none⟩) (Kd.R_types HO270.out BK274.out (by decide)) (fun _ hk => hk.2) (.slice Ao36 t268.length co36)) (fun _ hk => hk.2) (.slice Ao38 t271.length co38)) (fun _ h_ => h_.1))) (Kd.R_base ho0) hb); have n3_ := Aside0.mk (Kd.R_elder' (by (with_reducible repeat (first | apply Kd.R_alloc | apply Kd.R_drewN | apply Kd.R_drew)); exact (Kd.R_mono (Kd.R_far (p := ⟨gb274, 1, none⟩) (Kd.R_far (p := ⟨gb274, 0, none⟩) (Kd.R_types HO273.out BK274.out (by decide)) (fun _ hk => hk.2) (.slice Ao36 t268.length co36)) (fun _ hk => hk.2) (.slice Ao38 t271.length co38)) (fun _ h_ => h_.1))) (Kd.R_base ho1) hb); have n4_ := Aside0.mk (Kd.R_lower (Kd.R_new' (Kd.R_new' ho0 (Kd.R_lt (by (with_reducible repeat (first | apply Kd.R_alloc | apply Kd.R_drewN | apply Kd.R_drew)); exact (Kd.R_mono (Kd.R_far (p := ⟨gb274, 1, none⟩) (Kd.R_far (p := ⟨gb274, 0, none⟩) (Kd.R_types HO264.out BK274.out (by decide)) (fun _ hk => hk.2) (.slice Ao36 t268.length co36)) (fun _ hk => hk.2) (.slice Ao38 t271.length co38)) (fun _ h_ => h_.1))))) (Kd.R_lt (by (with_reducible repeat (first | apply Kd.R_alloc | apply Kd.R_drewN | apply Kd.R_drew)); exact (Kd.R_mono (Kd.R_far (p := ⟨gb274, 1, none⟩) (Kd.R_far (p := ⟨gb274, 0, none⟩) (Kd.R_types HO270.out BK274.out (by decide)) (fun _ hk => hk.2) (.slice Ao36 t268.length co36)) (fun _ hk => hk.2) (.slice Ao38 t271.length co38)) (fun _ h_ => h_.1))))) (below_size (by repeat (first | (with_reducible first | exact HB.out | apply below_alloc | apply pw_below_drewN | apply below_drew1 | refine below_set ?_ GE253.out | refine below_set ?_ GE254.out | refine below_set ?_ GE274.out) | exact HB.out)))); have n5_ := Aside0.mk (Kd.R_lower (Kd.R_new' (Kd.R_new' ho1 (Kd.R_lt (by (with_reducible repeat (first | apply Kd.R_alloc | apply Kd.R_drewN | apply Kd.R_drew)); exact (Kd.R_mono (Kd.R_far (p := ⟨gb274, 1, none⟩) (Kd.R_far (p := ⟨gb274, 0, none⟩) (Kd.R_types HO267.out BK274.out (by decide)) (fun _ hk => hk.2) (.slice Ao36 t268.length co36)) (fun _ hk => hk.2) (.slice Ao38 t271.length co38)) (fun _ h_ => h_.1))))) (Kd.R_lt (by (with_reducible repeat (first | apply Kd.R_alloc | apply Kd.R_drewN | apply Kd.R_drew)); exact (Kd.R_mono (Kd.R_far (p := ⟨gb274, 1, none⟩) (Kd.R_far (p := ⟨gb274, 0, none⟩) (Kd.R_types HO273.out BK274.out (by decide)) (fun _ hk => hk.2) (.slice Ao36 t268.length co36)) (fun _ hk => hk.2) (.slice Ao38 t271.length co38)) (fun _ h_ => h_.1))))) (below_size (by repeat (first | (with_reducible first | exact HB.out | apply below_alloc | apply pw_below_drewN | apply below_drew1 | refine below_set ?_ GE253.out | refine below_set ?_ GE254.out | refine below_set ?_ GE274.out) | exact HB.out)))); have n6_ := Aside0.mk (blk_below (g := gb253) (o := .cells #[.int .i64 a0_0, .int .i64 a0_1, .int .i64 a0_2, .int .i64 a0_3, .int .i64 a0_4, .int .i64 a0_5] 32 (0, 0)) (by (with_reducible repeat (first | refine blk_drewN ?_ _ | refine blk_drew ?_ | refine blk_alloc ?_ _)); refine blk_far ?_ NB253_274.out _; (with_reducible repeat (first | refine blk_drewN ?_ _ | refine blk_drew ?_ | refine blk_alloc ?_ _)); refine blk_far ?_ NB253_274.out _; (with_reducible repeat (first | refine blk_drewN ?_ _ | refine blk_drew ?_ | refine blk_alloc ?_ _)); exact BK253.out) hb); have n7_ := Aside0.mk (blk_below (g := gb254) (o := .cells #[.slice A1_0 l1_0.length c1_0, .slice A1_1 l1_1.length c1_1] 64 (0, 0)) (by (with_reducible repeat (first | refine blk_drewN ?_ _ | refine blk_drew ?_ | refine blk_alloc ?_ _)); refine blk_far ?_ NB254_274.out _; (with_reducible repeat (first | refine blk_drewN ?_ _ | refine blk_drew ?_ | refine blk_alloc ?_ _)); refine blk_far ?_ NB254_274.out _; (with_reducible repeat (first | refine blk_drewN ?_ _ | refine blk_drew ?_ | refine blk_alloc ?_ _)); exact BK254.out) hb); have n8_ := Aside0.mk (blk_below (g := gb274) (o := .cells #[.slice Ao36 t268.length co36, .slice Ao38 t271.length co38] 50 (0, 0)) (by (with_reducible repeat (first | refine blk_drewN ?_ _ | refine blk_drew ?_ | refine blk_alloc ?_ _)); refine blk_put (cs := #[.slice Ao36 t268.length co36, .slice none 0 0]) ?_ 1 _ rfl; (with_reducible repeat (first | refine blk_drewN ?_ _ | refine blk_drew ?_ | refine blk_alloc ?_ _)); refine blk_put (cs := #[.slice none 0 0, .slice none 0 0]) ?_ 0 _ rfl; (with_reducible repeat (first | refine blk_drewN ?_ _ | refine blk_drew ?_ | refine blk_alloc ?_ _)); exact BK274.out) hb); have n9_ := Aside0.mk (below_step (by repeat (first | (with_reducible first | exact HB.out | apply below_alloc | apply pw_below_drewN | apply below_drew1 | refine below_set ?_ GE253.out | refine below_set ?_ GE254.out | refine below_set ?_ GE274.out) | exact HB.out)) hb); clear HO264; clear HO267; clear HO270; clear HO273; clear BK253; clear BK254; clear BK274; clear HB; have HO264 := n0_; have HO267 := n1_; have HO270 := n2_; have HO273 := n3_; have HO277 := n4_; have HO280 := n5_; have BK253 := n6_; have BK254 := n7_; have BK274 := n8_; have HB := n9_; clear n0_ n1_ n2_ n3_ n4_ n5_ n6_ n7_ n8_ n9_; (try clear hb); (try clear hb2); (try clear hk); (try clear hi); (try clear ho0); (try clear ho1)) | ((with_reducible refine gate_dst (N := 7) rfl ?_); refine box_event ?hg (N := 7) ?hd (cs := #[.slice none 0 0, .slice none 0 0]) (t := 50) ?hr ?_; (case hd => rfl); (case hg => rfl); (case hr => first | (go_simp; done) | (go_simp; rfl)); intro gb281 hg w43 hbox hb; have n0_ := Aside0.mk (Kd.R_below (by (with_reducible repeat (first | apply Kd.R_alloc | apply Kd.R_drewN | apply Kd.R_drew)); exact HO264.out) hb); have n1_ := Aside0.mk (Kd.R_below (by (with_reducible repeat (first | apply Kd.R_alloc | apply Kd.R_drewN | apply Kd.R_drew)); exact HO267.out) hb); have n2_ := Aside0.mk (Kd.R_below (by (with_reducible repeat (first | apply Kd.R_alloc | apply Kd.R_drewN | apply Kd.R_drew)); exact HO270.out) hb); have n3_ := Aside0.mk (Kd.R_below (by (with_reducible repeat (first | apply Kd.R_alloc | apply Kd.R_drewN | apply Kd.R_drew)); exact HO273.out) hb); have n4_ := Aside0.mk (Kd.R_below (by (with_reducible repeat (first | apply Kd.R_alloc | apply Kd.R_drewN | apply Kd.R_drew)); exact HO277.out) hb); have n5_ := Aside0.mk (Kd.R_below (by (with_reducible repeat (first | apply Kd.R_alloc | apply Kd.R_drewN | apply Kd.R_drew)); exact HO280.out) hb); have n6_ := Aside0.mk (blk_below (g := gb253) (o := .cells #[.int .i64 a0_0, .int .i64 a0_1, .int .i64 a0_2, .int .i64 a0_3, .int .i64 a0_4, .int .i64 a0_5] 32 (0, 0)) (by exact BK253.out) hb); have n7_ := Aside0.mk (blk_below (g := gb254) (o := .cells #[.slice A1_0 l1_0.length c1_0, .slice A1_1 l1_1.length c1_1] 64 (0, 0)) (by exact BK254.out) hb); have n8_ := Aside0.mk (blk_below (g := gb274) (o := .cells #[.slice Ao36 t268.length co36, .slice Ao38 t271.length co38] 50 (0, 0)) (by exact BK274.out) hb); have n9_ := Aside0.mk (below_step (by repeat (first | (with_reducible first | exact HB.out | apply below_alloc | apply pw_below_drewN | apply below_drew1 | refine below_set ?_ GE253.out | refine below_set ?_ GE254.out | refine below_set ?_ GE274.out) | exact HB.out)) hb); have n10_ := Aside0.mk (hbox); have n11_ := Aside0.mk ((by rw [hg]; exact (below_size (by repeat (first | (with_reducible first | exact HB.out | apply below_alloc | apply pw_below_drewN | apply below_drew1 | refine below_set ?_ GE253.out | refine below_set ?_ GE254.out | refine below_set ?_ GE274.out) | exact HB.out))) : w.heap.size ≤ gb281)); have n12_ := Aside0.mk ((by rw [hg]; exact (below_size (by repeat (first | (with_reducible first | exact HB.out | apply below_alloc | apply pw_below_drewN | apply below_drew1 | refine below_set ?_ GE253.out | refine below_set ?_ GE254.out | refine below_set ?_ GE274.out) | exact HB.out))) : w.heap.size ≤ gb281)); have n13_ := Aside0.mk ((by rw [hg]; exact Nat.ne_of_lt (blk_lt (g := gb253) (o := .cells #[.int .i64 a0_0, .int .i64 a0_1, .int .i64 a0_2, .int .i64 a0_3, .int .i64 a0_4, .int .i64 a0_5] 32 (0, 0)) (by exact BK253.out)) : gb253 ≠ gb281)); have n14_ := Aside0.mk ((by rw [hg]; exact Nat.ne_of_gt (blk_lt (g := gb253) (o := .cells #[.int .i64 a0_0, .int .i64 a0_1, .int .i64 a0_2, .int .i64 a0_3, .int .i64 a0_4, .int .i64 a0_5] 32 (0, 0)) (by exact BK253.out)) : gb281 ≠ gb253)); have n15_ := Aside0.mk ((by rw [hg]; exact Nat.ne_of_lt (blk_lt (g := gb254) (o := .cells #[.slice A1_0 l1_0.length c1_0, .slice A1_1 l1_1.length c1_1] 64 (0, 0)) (by exact BK254.out)) : gb254 ≠ gb281)); have n16_ := Aside0.mk ((by rw [hg]; exact Nat.ne_of_gt (blk_lt (g := gb254) (o := .cells #[.slice A1_0 l1_0.length c1_0, .slice A1_1 l1_1.length c1_1] 64 (0, 0)) (by exact BK254.out)) : gb281 ≠ gb254)); have n17_ := Aside0.mk ((by rw [hg]; exact Nat.ne_of_lt (blk_lt (g := gb274) (o := .cells #[.slice Ao36 t268.length co36, .slice Ao38 t271.length co38] 50 (0, 0)) (by exact BK274.out)) : gb274 ≠ gb281)); have n18_ := Aside0.mk ((by rw [hg]; exact Nat.ne_of_gt (blk_lt (g := gb274) (o := .cells #[.slice Ao36 t268.length co36, .slice Ao38 t271.length co38] 50 (0, 0)) (by exact BK274.out)) : gb281 ≠ gb274)); clear HO264; clear HO267; clear HO270; clear HO273; clear HO277; clear HO280; clear BK253; clear BK254; clear BK274; clear HB; have HO264 := n0_; have HO267 := n1_; have HO270 := n2_; have HO273 := n3_; have HO277 := n4_; have HO280 := n5_; have BK253 := n6_; have BK254 := n7_; have BK274 := n8_; have HB := n9_; have BK281 := n10_; have GW281 := n11_; have GE281 := n12_; have NB253_281 := n13_; have NB281_253 := n14_; have NB254_281 := n15_; have NB281_254 := n16_; have NB274_281 := n17_; have NB281_274 := n18_; clear n0_ n1_ n2_ n3_ n4_ n5_ n6_ n7_ n8_ n9_ n10_ n11_ n12_ n13_ n14_ n15_ n16_ n17_ n18_; clear hb hbox hg; obtain ⟨Ao44, co44, eo44⟩ := Kd.R_slice HO277.out; subst eo44; have hnb45 := NB281_253.out; have hnc45 := NB253_281.out; have hnb46 := NB281_254.out; have hnc46 := NB254_281.out; have hnb47 := NB281_274.out; have hnc47 := NB274_281.out; have hcz48_0 : w43.cell? ⟨gb281, 0, none⟩ = some (.slice none 0 0) := (blk_cell BK281.out 0).trans rfl; have hcz48_1 : w43.cell? ⟨gb281, 1, none⟩ = some (.slice none 0 0) := (blk_cell BK281.out 1).trans rfl; have hfz48_0 := blk_frozen BK281.out 0; have hfz48_1 := blk_frozen BK281.out 1; obtain ⟨Ao49, co49, eo49⟩ := Kd.R_slice HO280.out; subst eo49))
    have n0_ : Aside0 (Kd.R (Kd.int .i64) 3 ((w43.setCell ⟨gb281, 0, none⟩ (.slice Ao44 t275.length co44)).setCell ⟨gb281, 1, none⟩ (.slice Ao49 t278.length co49)) w.heap.size (fun k_ => some k_ ≠ (.slice Ao36 t268.length co36 : Value).ownBlock ∧ some k_ ≠ (.slice Ao44 t275.length co44 : Value).ownBlock) v263 t262) := ⟨by (with_reducible repeat (first | apply Kd.R_alloc | apply Kd.R_drewN | apply Kd.R_drew)); exact Kd.R_mono (Kd.R_far (p := ⟨gb281, 1, none⟩) (Kd.R_far (p := ⟨gb281, 0, none⟩) (Kd.R_types HO264.out BK281.out (by decide)) (fun _ hk => hk.2) (.slice Ao44 t275.length co44)) (fun _ hk => hk.2) (.slice Ao49 t278.length co49)) (fun _ hk => ⟨hk.1.1, hk.1.2⟩)⟩
    have n1_ : Aside0 (Kd.R k24 24 ((w43.setCell ⟨gb281, 0, none⟩ (.slice Ao44 t275.length co44)).setCell ⟨gb281, 1, none⟩ (.slice Ao49 t278.length co49)) w.heap.size (fun k_ => some k_ ≠ (.slice Ao38 t271.length co38 : Value).ownBlock ∧ some k_ ≠ (.slice Ao49 t278.length co49 : Value).ownBlock) v266 t265) := ⟨by (with_reducible repeat (first | apply Kd.R_alloc | apply Kd.R_drewN | apply Kd.R_drew)); exact Kd.R_mono (Kd.R_far (p := ⟨gb281, 1, none⟩) (Kd.R_far (p := ⟨gb281, 0, none⟩) (Kd.R_types HO267.out BK281.out (by decide)) (fun _ hk => hk.2) (.slice Ao44 t275.length co44)) (fun _ hk => hk.2) (.slice Ao49 t278.length co49)) (fun _ hk => ⟨hk.1.1, hk.1.2⟩)⟩
    have n2_ : Aside0 (Kd.R (Kd.int .i64) 3 ((w43.setCell ⟨gb281, 0, none⟩ (.slice Ao44 t275.length co44)).setCell ⟨gb281, 1, none⟩ (.slice Ao49 t278.length co49)) w.heap.size (fun k_ => some k_ ≠ (v263 : Value).ownBlock ∧ some k_ ≠ (.slice Ao44 t275.length co44 : Value).ownBlock) (.slice Ao36 t268.length co36) t268) := ⟨by (with_reducible repeat (first | apply Kd.R_alloc | apply Kd.R_drewN | apply Kd.R_drew)); exact Kd.R_mono (Kd.R_far (p := ⟨gb281, 1, none⟩) (Kd.R_far (p := ⟨gb281, 0, none⟩) (Kd.R_types HO270.out BK281.out (by decide)) (fun _ hk => hk.2) (.slice Ao44 t275.length co44)) (fun _ hk => hk.2) (.slice Ao49 t278.length co49)) (fun _ hk => ⟨hk.1.1, hk.1.2⟩)⟩
    have n3_ : Aside0 (Kd.R k24 24 ((w43.setCell ⟨gb281, 0, none⟩ (.slice Ao44 t275.length co44)).setCell ⟨gb281, 1, none⟩ (.slice Ao49 t278.length co49)) w.heap.size (fun k_ => some k_ ≠ (v266 : Value).ownBlock ∧ some k_ ≠ (.slice Ao49 t278.length co49 : Value).ownBlock) (.slice Ao38 t271.length co38) t271) := ⟨by (with_reducible repeat (first | apply Kd.R_alloc | apply Kd.R_drewN | apply Kd.R_drew)); exact Kd.R_mono (Kd.R_far (p := ⟨gb281, 1, none⟩) (Kd.R_far (p := ⟨gb281, 0, none⟩) (Kd.R_types HO273.out BK281.out (by decide)) (fun _ hk => hk.2) (.slice Ao44 t275.length co44)) (fun _ hk => hk.2) (.slice Ao49 t278.length co49)) (fun _ hk => ⟨hk.1.1, hk.1.2⟩)⟩
    have n4_ : Aside0 (Kd.R (Kd.int .i64) 3 ((w43.setCell ⟨gb281, 0, none⟩ (.slice Ao44 t275.length co44)).setCell ⟨gb281, 1, none⟩ (.slice Ao49 t278.length co49)) w.heap.size (fun k_ => some k_ ≠ (v263 : Value).ownBlock ∧ some k_ ≠ (.slice Ao36 t268.length co36 : Value).ownBlock) (.slice Ao44 t275.length co44) t275) := ⟨by (with_reducible repeat (first | apply Kd.R_alloc | apply Kd.R_drewN | apply Kd.R_drew)); exact Kd.R_mono (Kd.R_far (p := ⟨gb281, 1, none⟩) (Kd.R_far (p := ⟨gb281, 0, none⟩) (Kd.R_types HO277.out BK281.out (by decide)) (fun _ hk => hk.2) (.slice Ao44 t275.length co44)) (fun _ hk => hk.2) (.slice Ao49 t278.length co49)) (fun _ hk => ⟨hk.1.1.2, hk.1.2⟩)⟩
    have n5_ : Aside0 (Kd.R k24 24 ((w43.setCell ⟨gb281, 0, none⟩ (.slice Ao44 t275.length co44)).setCell ⟨gb281, 1, none⟩ (.slice Ao49 t278.length co49)) w.heap.size (fun k_ => some k_ ≠ (v266 : Value).ownBlock ∧ some k_ ≠ (.slice Ao38 t271.length co38 : Value).ownBlock) (.slice Ao49 t278.length co49) t278) := ⟨by (with_reducible repeat (first | apply Kd.R_alloc | apply Kd.R_drewN | apply Kd.R_drew)); exact Kd.R_mono (Kd.R_far (p := ⟨gb281, 1, none⟩) (Kd.R_far (p := ⟨gb281, 0, none⟩) (Kd.R_types HO280.out BK281.out (by decide)) (fun _ hk => hk.2) (.slice Ao44 t275.length co44)) (fun _ hk => hk.2) (.slice Ao49 t278.length co49)) (fun _ hk => ⟨hk.1.1.2, hk.1.2⟩)⟩
    have n6_ : Aside0 (((w43.setCell ⟨gb281, 0, none⟩ (.slice Ao44 t275.length co44)).setCell ⟨gb281, 1, none⟩ (.slice Ao49 t278.length co49)).heap[gb253]? = some (.cells #[.int .i64 a0_0, .int .i64 a0_1, .int .i64 a0_2, .int .i64 a0_3, .int .i64 a0_4, .int .i64 a0_5] 32 (0, 0))) := ⟨by (with_reducible repeat (first | refine blk_drewN ?_ _ | refine blk_drew ?_ | refine blk_alloc ?_ _)); refine blk_far ?_ NB253_281.out _; (with_reducible repeat (first | refine blk_drewN ?_ _ | refine blk_drew ?_ | refine blk_alloc ?_ _)); refine blk_far ?_ NB253_281.out _; (with_reducible repeat (first | refine blk_drewN ?_ _ | refine blk_drew ?_ | refine blk_alloc ?_ _)); exact BK253.out⟩
    have n7_ : Aside0 (((w43.setCell ⟨gb281, 0, none⟩ (.slice Ao44 t275.length co44)).setCell ⟨gb281, 1, none⟩ (.slice Ao49 t278.length co49)).heap[gb254]? = some (.cells #[.slice A1_0 l1_0.length c1_0, .slice A1_1 l1_1.length c1_1] 64 (0, 0))) := ⟨by (with_reducible repeat (first | refine blk_drewN ?_ _ | refine blk_drew ?_ | refine blk_alloc ?_ _)); refine blk_far ?_ NB254_281.out _; (with_reducible repeat (first | refine blk_drewN ?_ _ | refine blk_drew ?_ | refine blk_alloc ?_ _)); refine blk_far ?_ NB254_281.out _; (with_reducible repeat (first | refine blk_drewN ?_ _ | refine blk_drew ?_ | refine blk_alloc ?_ _)); exact BK254.out⟩
    have n8_ : Aside0 (((w43.setCell ⟨gb281, 0, none⟩ (.slice Ao44 t275.length co44)).setCell ⟨gb281, 1, none⟩ (.slice Ao49 t278.length co49)).heap[gb274]? = some (.cells #[.slice Ao36 t268.length co36, .slice Ao38 t271.length co38] 50 (0, 0))) := ⟨by (with_reducible repeat (first | refine blk_drewN ?_ _ | refine blk_drew ?_ | refine blk_alloc ?_ _)); refine blk_far ?_ NB274_281.out _; (with_reducible repeat (first | refine blk_drewN ?_ _ | refine blk_drew ?_ | refine blk_alloc ?_ _)); refine blk_far ?_ NB274_281.out _; (with_reducible repeat (first | refine blk_drewN ?_ _ | refine blk_drew ?_ | refine blk_alloc ?_ _)); exact BK274.out⟩
    have n9_ : Aside0 (((w43.setCell ⟨gb281, 0, none⟩ (.slice Ao44 t275.length co44)).setCell ⟨gb281, 1, none⟩ (.slice Ao49 t278.length co49)).heap[gb281]? = some (.cells #[.slice Ao44 t275.length co44, .slice Ao49 t278.length co49] 50 (0, 0))) := ⟨by (with_reducible repeat (first | refine blk_drewN ?_ _ | refine blk_drew ?_ | refine blk_alloc ?_ _)); refine blk_put (cs := #[.slice Ao44 t275.length co44, .slice none 0 0]) ?_ 1 _ rfl; (with_reducible repeat (first | refine blk_drewN ?_ _ | refine blk_drew ?_ | refine blk_alloc ?_ _)); refine blk_put (cs := #[.slice none 0 0, .slice none 0 0]) ?_ 0 _ rfl; (with_reducible repeat (first | refine blk_drewN ?_ _ | refine blk_drew ?_ | refine blk_alloc ?_ _)); exact BK281.out⟩
    have n10_ : Aside0 (Below w.heap.size w ((w43.setCell ⟨gb281, 0, none⟩ (.slice Ao44 t275.length co44)).setCell ⟨gb281, 1, none⟩ (.slice Ao49 t278.length co49))) := ⟨by repeat (first | (with_reducible first | exact HB.out | apply below_alloc | apply pw_below_drewN | apply below_drew1 | refine below_set ?_ GE253.out | refine below_set ?_ GE254.out | refine below_set ?_ GE274.out | refine below_set ?_ GE281.out) | exact HB.out)⟩
    (try clear HO264)
    (try clear HO267)
    (try clear HO270)
    (try clear HO273)
    (try clear HO277)
    (try clear HO280)
    (try clear BK253)
    (try clear BK254)
    (try clear BK274)
    (try clear BK281)
    (try clear HB)
    generalize ((w43.setCell ⟨gb281, 0, none⟩ (.slice Ao44 t275.length co44)).setCell ⟨gb281, 1, none⟩ (.slice Ao49 t278.length co49)) = w50 at n0_ n1_ n2_ n3_ n4_ n5_ n6_ n7_ n8_ n9_ n10_ ⊢
    have HO264 := n0_
    have HO267 := n1_
    have HO270 := n2_
    have HO273 := n3_
    have HO277 := n4_
    have HO280 := n5_
    have BK253 := n6_
    have BK254 := n7_
    have BK274 := n8_
    have BK281 := n9_
    have HB := n10_
    clear n0_ n1_ n2_ n3_ n4_ n5_ n6_ n7_ n8_ n9_ n10_
    have n0_ := Aside0.mk (Kd.R_drew HO264.out)
    have n1_ := Aside0.mk (Kd.R_drew HO267.out)
    have n2_ := Aside0.mk (Kd.R_drew HO270.out)
    have n3_ := Aside0.mk (Kd.R_drew HO273.out)
    have n4_ := Aside0.mk (Kd.R_drew HO277.out)
    have n5_ := Aside0.mk (Kd.R_drew HO280.out)
    have n6_ := Aside0.mk (blk_drew BK253.out)
    have n7_ := Aside0.mk (blk_drew BK254.out)
    have n8_ := Aside0.mk (blk_drew BK274.out)
    have n9_ := Aside0.mk (blk_drew BK281.out)
    have n10_ := Aside0.mk (below_drew1 HB.out)
    clear HO264
    clear HO267
    clear HO270
    clear HO273
    clear HO277
    clear HO280
    clear BK253
    clear BK254
    clear BK274
    clear BK281
    clear HB
    have HO264 := n0_
    have HO267 := n1_
    have HO270 := n2_
    have HO273 := n3_
    have HO277 := n4_
    have HO280 := n5_
    have BK253 := n6_
    have BK254 := n7_
    have BK274 := n8_
    have BK281 := n9_
    have HB := n10_
    clear n0_ n1_ n2_ n3_ n4_ n5_ n6_ n7_ n8_ n9_ n10_
    refine start_ (n := 6) (S := fun w' => w'.cell? ⟨gb253, 0, none⟩ = some (.int .i64 a0_0) ∧ w'.cell? ⟨gb253, 1, none⟩ = some (.int .i64 a0_1) ∧ w'.cell? ⟨gb253, 2, none⟩ = some (.int .i64 a0_2) ∧ w'.cell? ⟨gb253, 3, none⟩ = some (.int .i64 a0_3) ∧ w'.cell? ⟨gb253, 4, none⟩ = some (.int .i64 a0_4) ∧ w'.cell? ⟨gb253, 5, none⟩ = some (.int .i64 a0_5) ∧ w'.cell? ⟨gb281, 0, none⟩ = some (.slice Ao44 t275.length co44) ∧ w'.cell? ⟨gb281, 1, none⟩ = some (.slice Ao49 t278.length co49)) (ds := []) #[false, false, false, false, false, false] (by kernel_rfl) rfl rfl ⟨(blk_cell BK253.out 0).trans rfl, (blk_cell BK253.out 1).trans rfl, (blk_cell BK253.out 2).trans rfl, (blk_cell BK253.out 3).trans rfl, (blk_cell BK253.out 4).trans rfl, (blk_cell BK253.out 5).trans rfl, (blk_cell BK281.out 0).trans rfl, (blk_cell BK281.out 1).trans rfl⟩ (fun hHeld => ?_)
    generalize w50.drew = w51 at HO264 HO267 HO270 HO273 HO277 HO280 BK253 BK254 BK274 BK281 HB hHeld ⊢
    refine take_ (i := 0) (N := some 25) (v := ?_) (a' := ?_) #[true, false, false, false, false, false] rfl rfl (by kernel_rfl) (fun _ _ _ h => h) (Or.inl ⟨by rfl, ?_⟩) hHeld ?_ ?_
    rotate_left
    ·rintro w' ⟨s0, s1, s2, s3, s4, s5, s6, s7⟩
     go_simp
     with_reducible rfl
    rotate_left
    ·simp only [Act.put, List.setIfInBounds_toArray, List.set_cons_zero, List.set_cons_succ, i64_w, i32_w]
     rfl
    refine take_ (i := 2) (N := some 27) (v := ?_) (a' := ?_) #[true, false, true, false, false, false] rfl rfl (by kernel_rfl) (fun _ _ _ h => h) (Or.inl ⟨by rfl, ?_⟩) hHeld ?_ ?_
    rotate_left
    ·rintro w' ⟨s0, s1, s2, s3, s4, s5, s6, s7⟩
     go_simp
     with_reducible rfl
    rotate_left
    ·simp only [Act.put, List.setIfInBounds_toArray, List.set_cons_zero, List.set_cons_succ, i64_w, i32_w]
     rfl
    refine join_ (σ := Value × Value × Nat) 1 #[true, true, true, true, true, false] (fun s_ => [(26, .agg #[.int .i64 t282, .int .i64 t283, .int .i64 t284, .int .i64 t285, .int .i64 t286, .int .i64 t287]), (28, .agg #[s_.1, s_.2.1]), (8, .pointer (some ⟨s_.2.2, 0, none⟩))]) (fun s_ w' => (w'.cell? ⟨gb253, 0, none⟩ = some (.int .i64 a0_0) ∧ w'.cell? ⟨gb253, 1, none⟩ = some (.int .i64 a0_1) ∧ w'.cell? ⟨gb253, 2, none⟩ = some (.int .i64 a0_2) ∧ w'.cell? ⟨gb253, 3, none⟩ = some (.int .i64 a0_3) ∧ w'.cell? ⟨gb253, 4, none⟩ = some (.int .i64 a0_4) ∧ w'.cell? ⟨gb253, 5, none⟩ = some (.int .i64 a0_5) ∧ w'.cell? ⟨gb281, 0, none⟩ = some (.slice Ao44 t275.length co44) ∧ w'.cell? ⟨gb281, 1, none⟩ = some (.slice Ao49 t278.length co49)) ∧ (Kd.R (Kd.int .i64) 3 w' w.heap.size (fun k_ => some k_ ≠ (.slice Ao36 t268.length co36 : Value).ownBlock ∧ some k_ ≠ (.slice Ao44 t275.length co44 : Value).ownBlock ∧ some k_ ≠ (s_.1 : Value).ownBlock) v263 t262) ∧ (Kd.R k24 24 w' w.heap.size (fun k_ => some k_ ≠ (.slice Ao38 t271.length co38 : Value).ownBlock ∧ some k_ ≠ (.slice Ao49 t278.length co49 : Value).ownBlock ∧ some k_ ≠ (s_.2.1 : Value).ownBlock) v266 t265) ∧ (Kd.R (Kd.int .i64) 3 w' w.heap.size (fun k_ => some k_ ≠ (v263 : Value).ownBlock ∧ some k_ ≠ (.slice Ao44 t275.length co44 : Value).ownBlock ∧ some k_ ≠ (s_.1 : Value).ownBlock) (.slice Ao36 t268.length co36) t268) ∧ (Kd.R k24 24 w' w.heap.size (fun k_ => some k_ ≠ (v266 : Value).ownBlock ∧ some k_ ≠ (.slice Ao49 t278.length co49 : Value).ownBlock ∧ some k_ ≠ (s_.2.1 : Value).ownBlock) (.slice Ao38 t271.length co38) t271) ∧ (Kd.R (Kd.int .i64) 3 w' w.heap.size (fun k_ => some k_ ≠ (v263 : Value).ownBlock ∧ some k_ ≠ (.slice Ao36 t268.length co36 : Value).ownBlock ∧ some k_ ≠ (s_.1 : Value).ownBlock) (.slice Ao44 t275.length co44) t275) ∧ (Kd.R k24 24 w' w.heap.size (fun k_ => some k_ ≠ (v266 : Value).ownBlock ∧ some k_ ≠ (.slice Ao38 t271.length co38 : Value).ownBlock ∧ some k_ ≠ (s_.2.1 : Value).ownBlock) (.slice Ao49 t278.length co49) t278) ∧ (Kd.R (Kd.int .i64) 3 w' w.heap.size (fun k_ => some k_ ≠ (v263 : Value).ownBlock ∧ some k_ ≠ (.slice Ao36 t268.length co36 : Value).ownBlock ∧ some k_ ≠ (.slice Ao44 t275.length co44 : Value).ownBlock) s_.1 t288) ∧ (Kd.R k24 24 w' w.heap.size (fun k_ => some k_ ≠ (v266 : Value).ownBlock ∧ some k_ ≠ (.slice Ao38 t271.length co38 : Value).ownBlock ∧ some k_ ≠ (.slice Ao49 t278.length co49 : Value).ownBlock) s_.2.1 t291) ∧ (w'.heap[gb253]? = some (.cells #[.int .i64 a0_0, .int .i64 a0_1, .int .i64 a0_2, .int .i64 a0_3, .int .i64 a0_4, .int .i64 a0_5] 32 (0, 0))) ∧ (w'.heap[gb254]? = some (.cells #[.slice A1_0 l1_0.length c1_0, .slice A1_1 l1_1.length c1_1] 64 (0, 0))) ∧ (w'.heap[gb274]? = some (.cells #[.slice Ao36 t268.length co36, .slice Ao38 t271.length co38] 50 (0, 0))) ∧ (w'.heap[gb281]? = some (.cells #[.slice Ao44 t275.length co44, .slice Ao49 t278.length co49] 50 (0, 0))) ∧ (w'.heap[s_.2.2]? = some (.cells #[.slice none 0 0, .slice none 0 0] 50 (0, 0))) ∧ (w.heap.size ≤ s_.2.2) ∧ (w.heap.size ≤ s_.2.2) ∧ (gb253 ≠ s_.2.2) ∧ (s_.2.2 ≠ gb253) ∧ (gb254 ≠ s_.2.2) ∧ (s_.2.2 ≠ gb254) ∧ (gb274 ≠ s_.2.2) ∧ (s_.2.2 ≠ gb274) ∧ (gb281 ≠ s_.2.2) ∧ (s_.2.2 ≠ gb281) ∧ (Below w.heap.size w w')) ?_ ?_
    rotate_left
    ·intro hCont
     refine two_ (i := 1) (j := 4) (Ni := some 26) (Nj := some 8) #[true, true, true, false, false, false] #[true, false, true, false, true, false] rfl rfl rfl rfl (by kernel_rfl) (by decide) (by decide) (fun K hK => ?_) (fun K hK => ?_)
     ·skip
      refine goes_ Try.func21 (by kernel_rfl) rfl #[.agg #[.int .i64 a0_0, .int .i64 a0_1, .int .i64 a0_2, .int .i64 a0_3, .int .i64 a0_4, .int .i64 a0_5]] (by rfl) rfl rfl (by (try simp only [List.map_toArray, List.map_cons, List.map_nil]); first | done | rfl | (simp only [List.length_drop, List.length_take]; rfl)) ?_
      with_reducible refine (laws_toMat.calls a0_0 a0_1 a0_2 a0_3 a0_4 a0_5 t282 t283 t284 t285 t286 t287 _ A14.out).mono ?_
      rintro e w52 ⟨rfl, hb⟩
      refine ⟨_, rfl, ?_⟩
      have n0_ := Aside0.mk (Kd.R_below HO264.out hb)
      have n1_ := Aside0.mk (Kd.R_below HO267.out hb)
      have n2_ := Aside0.mk (Kd.R_below HO270.out hb)
      have n3_ := Aside0.mk (Kd.R_below HO273.out hb)
      have n4_ := Aside0.mk (Kd.R_below HO277.out hb)
      have n5_ := Aside0.mk (Kd.R_below HO280.out hb)
      have n6_ := Aside0.mk (blk_below BK253.out hb)
      have n7_ := Aside0.mk (blk_below BK254.out hb)
      have n8_ := Aside0.mk (blk_below BK274.out hb)
      have n9_ := Aside0.mk (blk_below BK281.out hb)
      have n10_ := Aside0.mk (below_step HB.out hb)
      clear HO264
      clear HO267
      clear HO270
      clear HO273
      clear HO277
      clear HO280
      clear BK253
      clear BK254
      clear BK274
      clear BK281
      clear HB
      have HO264 := n0_
      have HO267 := n1_
      have HO270 := n2_
      have HO273 := n3_
      have HO277 := n4_
      have HO280 := n5_
      have BK253 := n6_
      have BK254 := n7_
      have BK274 := n8_
      have BK281 := n9_
      have HB := n10_
      clear n0_ n1_ n2_ n3_ n4_ n5_ n6_ n7_ n8_ n9_ n10_
      (try clear hb)
      (try clear hb2)
      (try clear hk)
      (try clear hi)
      refine hK.out _ _ ⟨(blk_cell BK253.out 0).trans rfl, (blk_cell BK253.out 1).trans rfl, (blk_cell BK253.out 2).trans rfl, (blk_cell BK253.out 3).trans rfl, (blk_cell BK253.out 4).trans rfl, (blk_cell BK253.out 5).trans rfl, (blk_cell BK281.out 0).trans rfl, (blk_cell BK281.out 1).trans rfl⟩ (fun hHeld => ?_)
      clear hK K
      refine norm_ (a' := ?_) ?_ ?_
      rotate_left
      ·show Act.put _ (some 26) _ = _
       simp only [Act.put, List.setIfInBounds_toArray, List.set_cons_zero, List.set_cons_succ, i64_w, i32_w]
       rfl
      refine two_ (i := 3) (j := 4) (Ni := some 28) (Nj := some 8) #[true, true, true, true, false, false] #[true, true, true, false, true, false] rfl rfl rfl rfl (by kernel_rfl) (by decide) (by decide) (fun K hK => ?_) (fun K hK => ?_)
      ·skip
       refine goes_ Try.func55 (by kernel_rfl) rfl #[.agg #[.int .i64 t282, .int .i64 t283, .int .i64 t284, .int .i64 t285, .int .i64 t286, .int .i64 t287], .agg #[.slice Ao44 t275.length co44, .slice Ao49 t278.length co49]] (by rfl) rfl rfl (by (try simp only [List.map_toArray, List.map_cons, List.map_nil]); first | done | rfl | (simp only [List.length_drop, List.length_take]; rfl)) ?_
       with_reducible refine (impl_MovePath.calls k t282 t283 t284 t285 t286 t287 _ _ t275 _ _ t278 t288 t291 _ ?side1 ?side2 ?side3 ?side4 A15.out).mono ?_
       (case side1 => exact (Kd.R_reads' HO277.out).2.2)
       (case side2 => exact (Kd.R_reads' HO277.out).2.1)
       (case side3 => exact (Kd.R_reads' HO280.out).2.2)
       (case side4 => exact (Kd.R_reads' HO280.out).2.1)
       rintro e w53 ⟨v289, v292, rfl, ho0, ho1, hb⟩
       refine ⟨_, rfl, ?_⟩
       have n0_ := Aside0.mk (Kd.R_elder' HO264.out (Kd.R_base ho0) hb)
       have n1_ := Aside0.mk (Kd.R_elder' HO267.out (Kd.R_base ho1) hb)
       have n2_ := Aside0.mk (Kd.R_elder' HO270.out (Kd.R_base ho0) hb)
       have n3_ := Aside0.mk (Kd.R_elder' HO273.out (Kd.R_base ho1) hb)
       have n4_ := Aside0.mk (Kd.R_elder' HO277.out (Kd.R_base ho0) hb)
       have n5_ := Aside0.mk (Kd.R_elder' HO280.out (Kd.R_base ho1) hb)
       have n6_ := Aside0.mk (Kd.R_lower (Kd.R_new' (Kd.R_new' (Kd.R_new' ho0 (Kd.R_lt HO264.out)) (Kd.R_lt HO270.out)) (Kd.R_lt HO277.out)) (below_size HB.out))
       have n7_ := Aside0.mk (Kd.R_lower (Kd.R_new' (Kd.R_new' (Kd.R_new' ho1 (Kd.R_lt HO267.out)) (Kd.R_lt HO273.out)) (Kd.R_lt HO280.out)) (below_size HB.out))
       have n8_ := Aside0.mk (blk_below BK253.out hb)
       have n9_ := Aside0.mk (blk_below BK254.out hb)
       have n10_ := Aside0.mk (blk_below BK274.out hb)
       have n11_ := Aside0.mk (blk_below BK281.out hb)
       have n12_ := Aside0.mk (below_step HB.out hb)
       clear HO264
       clear HO267
       clear HO270
       clear HO273
       clear HO277
       clear HO280
       clear BK253
       clear BK254
       clear BK274
       clear BK281
       clear HB
       have HO264 := n0_
       have HO267 := n1_
       have HO270 := n2_
       have HO273 := n3_
       have HO277 := n4_
       have HO280 := n5_
       have HO290 := n6_
       have HO293 := n7_
       have BK253 := n8_
       have BK254 := n9_
       have BK274 := n10_
       have BK281 := n11_
       have HB := n12_
       clear n0_ n1_ n2_ n3_ n4_ n5_ n6_ n7_ n8_ n9_ n10_ n11_ n12_
       (try clear hb)
       (try clear hb2)
       (try clear hk)
       (try clear hi)
       (try clear ho0)
       (try clear ho1)
       refine hK.out _ _ ⟨(blk_cell BK253.out 0).trans rfl, (blk_cell BK253.out 1).trans rfl, (blk_cell BK253.out 2).trans rfl, (blk_cell BK253.out 3).trans rfl, (blk_cell BK253.out 4).trans rfl, (blk_cell BK253.out 5).trans rfl, (blk_cell BK281.out 0).trans rfl, (blk_cell BK281.out 1).trans rfl⟩ (fun hHeld => ?_)
       clear hK K
       refine norm_ (a' := ?_) ?_ ?_
       rotate_left
       ·show Act.put _ (some 28) _ = _
        simp only [Act.put, List.setIfInBounds_toArray, List.set_cons_zero, List.set_cons_succ, i64_w, i32_w]
        rfl
       refine one_ (i := 4) (N := some 8) #[true, true, true, true, true, false] rfl rfl (by kernel_rfl) (by decide) (fun K hK => ?_)
       refine box_step ?hg (N := 8) ?hd (cs := #[.slice none 0 0, .slice none 0 0]) (t := 50) ?hr ?_; (case hd => rfl); (case hg => rfl); (case hr => first | (go_simp; done) | (go_simp; rfl))
       intro gb294 hg w54 hbox hb
       have n0_ := Aside0.mk (Kd.R_below HO264.out hb)
       have n1_ := Aside0.mk (Kd.R_below HO267.out hb)
       have n2_ := Aside0.mk (Kd.R_below HO270.out hb)
       have n3_ := Aside0.mk (Kd.R_below HO273.out hb)
       have n4_ := Aside0.mk (Kd.R_below HO277.out hb)
       have n5_ := Aside0.mk (Kd.R_below HO280.out hb)
       have n6_ := Aside0.mk (Kd.R_below HO290.out hb)
       have n7_ := Aside0.mk (Kd.R_below HO293.out hb)
       have n8_ := Aside0.mk (blk_below BK253.out hb)
       have n9_ := Aside0.mk (blk_below BK254.out hb)
       have n10_ := Aside0.mk (blk_below BK274.out hb)
       have n11_ := Aside0.mk (blk_below BK281.out hb)
       have n12_ := Aside0.mk (below_step HB.out hb)
       have n13_ := Aside0.mk (hbox)
       have n14_ := Aside0.mk ((by rw [hg]; exact (below_size HB.out) : w.heap.size ≤ gb294))
       have n15_ := Aside0.mk ((by rw [hg]; exact (below_size HB.out) : w.heap.size ≤ gb294))
       have n16_ := Aside0.mk ((by rw [hg]; exact Nat.ne_of_lt (blk_lt BK253.out) : gb253 ≠ gb294))
       have n17_ := Aside0.mk ((by rw [hg]; exact Nat.ne_of_gt (blk_lt BK253.out) : gb294 ≠ gb253))
       have n18_ := Aside0.mk ((by rw [hg]; exact Nat.ne_of_lt (blk_lt BK254.out) : gb254 ≠ gb294))
       have n19_ := Aside0.mk ((by rw [hg]; exact Nat.ne_of_gt (blk_lt BK254.out) : gb294 ≠ gb254))
       have n20_ := Aside0.mk ((by rw [hg]; exact Nat.ne_of_lt (blk_lt BK274.out) : gb274 ≠ gb294))
       have n21_ := Aside0.mk ((by rw [hg]; exact Nat.ne_of_gt (blk_lt BK274.out) : gb294 ≠ gb274))
       have n22_ := Aside0.mk ((by rw [hg]; exact Nat.ne_of_lt (blk_lt BK281.out) : gb281 ≠ gb294))
       have n23_ := Aside0.mk ((by rw [hg]; exact Nat.ne_of_gt (blk_lt BK281.out) : gb294 ≠ gb281))
       clear HO264
       clear HO267
       clear HO270
       clear HO273
       clear HO277
       clear HO280
       clear HO290
       clear HO293
       clear BK253
       clear BK254
       clear BK274
       clear BK281
       clear HB
       have HO264 := n0_
       have HO267 := n1_
       have HO270 := n2_
       have HO273 := n3_
       have HO277 := n4_
       have HO280 := n5_
       have HO290 := n6_
       have HO293 := n7_
       have BK253 := n8_
       have BK254 := n9_
       have BK274 := n10_
       have BK281 := n11_
       have HB := n12_
       have BK294 := n13_
       have GW294 := n14_
       have GE294 := n15_
       have NB253_294 := n16_
       have NB294_253 := n17_
       have NB254_294 := n18_
       have NB294_254 := n19_
       have NB274_294 := n20_
       have NB294_274 := n21_
       have NB281_294 := n22_
       have NB294_281 := n23_
       clear n0_ n1_ n2_ n3_ n4_ n5_ n6_ n7_ n8_ n9_ n10_ n11_ n12_ n13_ n14_ n15_ n16_ n17_ n18_ n19_ n20_ n21_ n22_ n23_
       clear hb hbox hg
       refine hK.out _ _ ⟨(blk_cell BK253.out 0).trans rfl, (blk_cell BK253.out 1).trans rfl, (blk_cell BK253.out 2).trans rfl, (blk_cell BK253.out 3).trans rfl, (blk_cell BK253.out 4).trans rfl, (blk_cell BK253.out 5).trans rfl, (blk_cell BK281.out 0).trans rfl, (blk_cell BK281.out 1).trans rfl⟩ (fun hHeld => ?_)
       clear hK K
       refine norm_ (a' := ?_) ?_ ?_
       rotate_left
       ·show Act.put _ (some 8) _ = _
        simp only [Act.put, List.setIfInBounds_toArray, List.set_cons_zero, List.set_cons_succ, i64_w, i32_w]
        rfl
       exact norm_ (by simp only [putAll, Act.put, List.setIfInBounds_toArray, List.set_cons_zero, List.set_cons_succ]) (hCont (v289, v292, gb294) _ ⟨hHeld, (Kd.R_mono HO264.out (fun _ hk => ⟨hk.1.1, ⟨hk.1.2, hk.2⟩⟩)), (Kd.R_mono HO267.out (fun _ hk => ⟨hk.1.1, ⟨hk.1.2, hk.2⟩⟩)), (Kd.R_mono HO270.out (fun _ hk => ⟨hk.1.1, ⟨hk.1.2, hk.2⟩⟩)), (Kd.R_mono HO273.out (fun _ hk => ⟨hk.1.1, ⟨hk.1.2, hk.2⟩⟩)), (Kd.R_mono HO277.out (fun _ hk => ⟨hk.1.1, ⟨hk.1.2, hk.2⟩⟩)), (Kd.R_mono HO280.out (fun _ hk => ⟨hk.1.1, ⟨hk.1.2, hk.2⟩⟩)), (Kd.R_mono HO290.out (fun _ hk => ⟨hk.1.1.2, ⟨hk.1.2, hk.2⟩⟩)), (Kd.R_mono HO293.out (fun _ hk => ⟨hk.1.1.2, ⟨hk.1.2, hk.2⟩⟩)), BK253.out, BK254.out, BK274.out, BK281.out, BK294.out, GW294.out, GE294.out, NB253_294.out, NB294_253.out, NB254_294.out, NB294_254.out, NB274_294.out, NB294_274.out, NB281_294.out, NB294_281.out, HB.out⟩)
      ·skip
       refine box_step ?hg (N := 8) ?hd (cs := #[.slice none 0 0, .slice none 0 0]) (t := 50) ?hr ?_; (case hd => rfl); (case hg => rfl); (case hr => first | (go_simp; done) | (go_simp; rfl))
       intro gb294 hg w53 hbox hb
       have n0_ := Aside0.mk (Kd.R_below HO264.out hb)
       have n1_ := Aside0.mk (Kd.R_below HO267.out hb)
       have n2_ := Aside0.mk (Kd.R_below HO270.out hb)
       have n3_ := Aside0.mk (Kd.R_below HO273.out hb)
       have n4_ := Aside0.mk (Kd.R_below HO277.out hb)
       have n5_ := Aside0.mk (Kd.R_below HO280.out hb)
       have n6_ := Aside0.mk (blk_below BK253.out hb)
       have n7_ := Aside0.mk (blk_below BK254.out hb)
       have n8_ := Aside0.mk (blk_below BK274.out hb)
       have n9_ := Aside0.mk (blk_below BK281.out hb)
       have n10_ := Aside0.mk (below_step HB.out hb)
       have n11_ := Aside0.mk (hbox)
       have n12_ := Aside0.mk ((by rw [hg]; exact (below_size HB.out) : w.heap.size ≤ gb294))
       have n13_ := Aside0.mk ((by rw [hg]; exact (below_size HB.out) : w.heap.size ≤ gb294))
       have n14_ := Aside0.mk ((by rw [hg]; exact Nat.ne_of_lt (blk_lt BK253.out) : gb253 ≠ gb294))
       have n15_ := Aside0.mk ((by rw [hg]; exact Nat.ne_of_gt (blk_lt BK253.out) : gb294 ≠ gb253))
       have n16_ := Aside0.mk ((by rw [hg]; exact Nat.ne_of_lt (blk_lt BK254.out) : gb254 ≠ gb294))
       have n17_ := Aside0.mk ((by rw [hg]; exact Nat.ne_of_gt (blk_lt BK254.out) : gb294 ≠ gb254))
       have n18_ := Aside0.mk ((by rw [hg]; exact Nat.ne_of_lt (blk_lt BK274.out) : gb274 ≠ gb294))
       have n19_ := Aside0.mk ((by rw [hg]; exact Nat.ne_of_gt (blk_lt BK274.out) : gb294 ≠ gb274))
       have n20_ := Aside0.mk ((by rw [hg]; exact Nat.ne_of_lt (blk_lt BK281.out) : gb281 ≠ gb294))
       have n21_ := Aside0.mk ((by rw [hg]; exact Nat.ne_of_gt (blk_lt BK281.out) : gb294 ≠ gb281))
       clear HO264
       clear HO267
       clear HO270
       clear HO273
       clear HO277
       clear HO280
       clear BK253
       clear BK254
       clear BK274
       clear BK281
       clear HB
       have HO264 := n0_
       have HO267 := n1_
       have HO270 := n2_
       have HO273 := n3_
       have HO277 := n4_
       have HO280 := n5_
       have BK253 := n6_
       have BK254 := n7_
       have BK274 := n8_
       have BK281 := n9_
       have HB := n10_
       have BK294 := n11_
       have GW294 := n12_
       have GE294 := n13_
       have NB253_294 := n14_
       have NB294_253 := n15_
       have NB254_294 := n16_
       have NB294_254 := n17_
       have NB274_294 := n18_
       have NB294_274 := n19_
       have NB281_294 := n20_
       have NB294_281 := n21_
       clear n0_ n1_ n2_ n3_ n4_ n5_ n6_ n7_ n8_ n9_ n10_ n11_ n12_ n13_ n14_ n15_ n16_ n17_ n18_ n19_ n20_ n21_
       clear hb hbox hg
       refine hK.out _ _ ⟨(blk_cell BK253.out 0).trans rfl, (blk_cell BK253.out 1).trans rfl, (blk_cell BK253.out 2).trans rfl, (blk_cell BK253.out 3).trans rfl, (blk_cell BK253.out 4).trans rfl, (blk_cell BK253.out 5).trans rfl, (blk_cell BK281.out 0).trans rfl, (blk_cell BK281.out 1).trans rfl⟩ (fun hHeld => ?_)
       clear hK K
       refine norm_ (a' := ?_) ?_ ?_
       rotate_left
       ·show Act.put _ (some 8) _ = _
        simp only [Act.put, List.setIfInBounds_toArray, List.set_cons_zero, List.set_cons_succ, i64_w, i32_w]
        rfl
       refine one_ (i := 3) (N := some 28) #[true, true, true, true, true, false] rfl rfl (by kernel_rfl) (by decide) (fun K hK => ?_)
       refine goes_ Try.func55 (by kernel_rfl) rfl #[.agg #[.int .i64 t282, .int .i64 t283, .int .i64 t284, .int .i64 t285, .int .i64 t286, .int .i64 t287], .agg #[.slice Ao44 t275.length co44, .slice Ao49 t278.length co49]] (by rfl) rfl rfl (by (try simp only [List.map_toArray, List.map_cons, List.map_nil]); first | done | rfl | (simp only [List.length_drop, List.length_take]; rfl)) ?_
       with_reducible refine (impl_MovePath.calls k t282 t283 t284 t285 t286 t287 _ _ t275 _ _ t278 t288 t291 _ ?side1 ?side2 ?side3 ?side4 A15.out).mono ?_
       (case side1 => exact (Kd.R_reads' HO277.out).2.2)
       (case side2 => exact (Kd.R_reads' HO277.out).2.1)
       (case side3 => exact (Kd.R_reads' HO280.out).2.2)
       (case side4 => exact (Kd.R_reads' HO280.out).2.1)
       rintro e w54 ⟨v289, v292, rfl, ho0, ho1, hb⟩
       refine ⟨_, rfl, ?_⟩
       have n0_ := Aside0.mk (Kd.R_elder' HO264.out (Kd.R_base ho0) hb)
       have n1_ := Aside0.mk (Kd.R_elder' HO267.out (Kd.R_base ho1) hb)
       have n2_ := Aside0.mk (Kd.R_elder' HO270.out (Kd.R_base ho0) hb)
       have n3_ := Aside0.mk (Kd.R_elder' HO273.out (Kd.R_base ho1) hb)
       have n4_ := Aside0.mk (Kd.R_elder' HO277.out (Kd.R_base ho0) hb)
       have n5_ := Aside0.mk (Kd.R_elder' HO280.out (Kd.R_base ho1) hb)
       have n6_ := Aside0.mk (Kd.R_lower (Kd.R_new' (Kd.R_new' (Kd.R_new' ho0 (Kd.R_lt HO264.out)) (Kd.R_lt HO270.out)) (Kd.R_lt HO277.out)) (below_size HB.out))
       have n7_ := Aside0.mk (Kd.R_lower (Kd.R_new' (Kd.R_new' (Kd.R_new' ho1 (Kd.R_lt HO267.out)) (Kd.R_lt HO273.out)) (Kd.R_lt HO280.out)) (below_size HB.out))
       have n8_ := Aside0.mk (blk_below BK253.out hb)
       have n9_ := Aside0.mk (blk_below BK254.out hb)
       have n10_ := Aside0.mk (blk_below BK274.out hb)
       have n11_ := Aside0.mk (blk_below BK281.out hb)
       have n12_ := Aside0.mk (blk_below BK294.out hb)
       have n13_ := Aside0.mk (below_step HB.out hb)
       clear HO264
       clear HO267
       clear HO270
       clear HO273
       clear HO277
       clear HO280
       clear BK253
       clear BK254
       clear BK274
       clear BK281
       clear BK294
       clear HB
       have HO264 := n0_
       have HO267 := n1_
       have HO270 := n2_
       have HO273 := n3_
       have HO277 := n4_
       have HO280 := n5_
       have HO290 := n6_
       have HO293 := n7_
       have BK253 := n8_
       have BK254 := n9_
       have BK274 := n10_
       have BK281 := n11_
       have BK294 := n12_
       have HB := n13_
       clear n0_ n1_ n2_ n3_ n4_ n5_ n6_ n7_ n8_ n9_ n10_ n11_ n12_ n13_
       (try clear hb)
       (try clear hb2)
       (try clear hk)
       (try clear hi)
       (try clear ho0)
       (try clear ho1)
       refine hK.out _ _ ⟨(blk_cell BK253.out 0).trans rfl, (blk_cell BK253.out 1).trans rfl, (blk_cell BK253.out 2).trans rfl, (blk_cell BK253.out 3).trans rfl, (blk_cell BK253.out 4).trans rfl, (blk_cell BK253.out 5).trans rfl, (blk_cell BK281.out 0).trans rfl, (blk_cell BK281.out 1).trans rfl⟩ (fun hHeld => ?_)
       clear hK K
       refine norm_ (a' := ?_) ?_ ?_
       rotate_left
       ·show Act.put _ (some 28) _ = _
        simp only [Act.put, List.setIfInBounds_toArray, List.set_cons_zero, List.set_cons_succ, i64_w, i32_w]
        rfl
       exact norm_ (by simp only [putAll, Act.put, List.setIfInBounds_toArray, List.set_cons_zero, List.set_cons_succ]) (hCont (v289, v292, gb294) _ ⟨hHeld, (Kd.R_mono HO264.out (fun _ hk => ⟨hk.1.1, ⟨hk.1.2, hk.2⟩⟩)), (Kd.R_mono HO267.out (fun _ hk => ⟨hk.1.1, ⟨hk.1.2, hk.2⟩⟩)), (Kd.R_mono HO270.out (fun _ hk => ⟨hk.1.1, ⟨hk.1.2, hk.2⟩⟩)), (Kd.R_mono HO273.out (fun _ hk => ⟨hk.1.1, ⟨hk.1.2, hk.2⟩⟩)), (Kd.R_mono HO277.out (fun _ hk => ⟨hk.1.1, ⟨hk.1.2, hk.2⟩⟩)), (Kd.R_mono HO280.out (fun _ hk => ⟨hk.1.1, ⟨hk.1.2, hk.2⟩⟩)), (Kd.R_mono HO290.out (fun _ hk => ⟨hk.1.1.2, ⟨hk.1.2, hk.2⟩⟩)), (Kd.R_mono HO293.out (fun _ hk => ⟨hk.1.1.2, ⟨hk.1.2, hk.2⟩⟩)), BK253.out, BK254.out, BK274.out, BK281.out, BK294.out, GW294.out, GE294.out, NB253_294.out, NB294_253.out, NB254_294.out, NB294_254.out, NB274_294.out, NB294_274.out, NB281_294.out, NB294_281.out, HB.out⟩)
     ·skip
      refine box_step ?hg (N := 8) ?hd (cs := #[.slice none 0 0, .slice none 0 0]) (t := 50) ?hr ?_; (case hd => rfl); (case hg => rfl); (case hr => first | (go_simp; done) | (go_simp; rfl))
      intro gb294 hg w52 hbox hb
      have n0_ := Aside0.mk (Kd.R_below HO264.out hb)
      have n1_ := Aside0.mk (Kd.R_below HO267.out hb)
      have n2_ := Aside0.mk (Kd.R_below HO270.out hb)
      have n3_ := Aside0.mk (Kd.R_below HO273.out hb)
      have n4_ := Aside0.mk (Kd.R_below HO277.out hb)
      have n5_ := Aside0.mk (Kd.R_below HO280.out hb)
      have n6_ := Aside0.mk (blk_below BK253.out hb)
      have n7_ := Aside0.mk (blk_below BK254.out hb)
      have n8_ := Aside0.mk (blk_below BK274.out hb)
      have n9_ := Aside0.mk (blk_below BK281.out hb)
      have n10_ := Aside0.mk (below_step HB.out hb)
      have n11_ := Aside0.mk (hbox)
      have n12_ := Aside0.mk ((by rw [hg]; exact (below_size HB.out) : w.heap.size ≤ gb294))
      have n13_ := Aside0.mk ((by rw [hg]; exact (below_size HB.out) : w.heap.size ≤ gb294))
      have n14_ := Aside0.mk ((by rw [hg]; exact Nat.ne_of_lt (blk_lt BK253.out) : gb253 ≠ gb294))
      have n15_ := Aside0.mk ((by rw [hg]; exact Nat.ne_of_gt (blk_lt BK253.out) : gb294 ≠ gb253))
      have n16_ := Aside0.mk ((by rw [hg]; exact Nat.ne_of_lt (blk_lt BK254.out) : gb254 ≠ gb294))
      have n17_ := Aside0.mk ((by rw [hg]; exact Nat.ne_of_gt (blk_lt BK254.out) : gb294 ≠ gb254))
      have n18_ := Aside0.mk ((by rw [hg]; exact Nat.ne_of_lt (blk_lt BK274.out) : gb274 ≠ gb294))
      have n19_ := Aside0.mk ((by rw [hg]; exact Nat.ne_of_gt (blk_lt BK274.out) : gb294 ≠ gb274))
      have n20_ := Aside0.mk ((by rw [hg]; exact Nat.ne_of_lt (blk_lt BK281.out) : gb281 ≠ gb294))
      have n21_ := Aside0.mk ((by rw [hg]; exact Nat.ne_of_gt (blk_lt BK281.out) : gb294 ≠ gb281))
      clear HO264
      clear HO267
      clear HO270
      clear HO273
      clear HO277
      clear HO280
      clear BK253
      clear BK254
      clear BK274
      clear BK281
      clear HB
      have HO264 := n0_
      have HO267 := n1_
      have HO270 := n2_
      have HO273 := n3_
      have HO277 := n4_
      have HO280 := n5_
      have BK253 := n6_
      have BK254 := n7_
      have BK274 := n8_
      have BK281 := n9_
      have HB := n10_
      have BK294 := n11_
      have GW294 := n12_
      have GE294 := n13_
      have NB253_294 := n14_
      have NB294_253 := n15_
      have NB254_294 := n16_
      have NB294_254 := n17_
      have NB274_294 := n18_
      have NB294_274 := n19_
      have NB281_294 := n20_
      have NB294_281 := n21_
      clear n0_ n1_ n2_ n3_ n4_ n5_ n6_ n7_ n8_ n9_ n10_ n11_ n12_ n13_ n14_ n15_ n16_ n17_ n18_ n19_ n20_ n21_
      clear hb hbox hg
      refine hK.out _ _ ⟨(blk_cell BK253.out 0).trans rfl, (blk_cell BK253.out 1).trans rfl, (blk_cell BK253.out 2).trans rfl, (blk_cell BK253.out 3).trans rfl, (blk_cell BK253.out 4).trans rfl, (blk_cell BK253.out 5).trans rfl, (blk_cell BK281.out 0).trans rfl, (blk_cell BK281.out 1).trans rfl⟩ (fun hHeld => ?_)
      clear hK K
      refine norm_ (a' := ?_) ?_ ?_
      rotate_left
      ·show Act.put _ (some 8) _ = _
       simp only [Act.put, List.setIfInBounds_toArray, List.set_cons_zero, List.set_cons_succ, i64_w, i32_w]
       rfl
      refine one_ (i := 1) (N := some 26) #[true, true, true, false, true, false] rfl rfl (by kernel_rfl) (by decide) (fun K hK => ?_)
      refine goes_ Try.func21 (by kernel_rfl) rfl #[.agg #[.int .i64 a0_0, .int .i64 a0_1, .int .i64 a0_2, .int .i64 a0_3, .int .i64 a0_4, .int .i64 a0_5]] (by rfl) rfl rfl (by (try simp only [List.map_toArray, List.map_cons, List.map_nil]); first | done | rfl | (simp only [List.length_drop, List.length_take]; rfl)) ?_
      with_reducible refine (laws_toMat.calls a0_0 a0_1 a0_2 a0_3 a0_4 a0_5 t282 t283 t284 t285 t286 t287 _ A14.out).mono ?_
      rintro e w53 ⟨rfl, hb⟩
      refine ⟨_, rfl, ?_⟩
      have n0_ := Aside0.mk (Kd.R_below HO264.out hb)
      have n1_ := Aside0.mk (Kd.R_below HO267.out hb)
      have n2_ := Aside0.mk (Kd.R_below HO270.out hb)
      have n3_ := Aside0.mk (Kd.R_below HO273.out hb)
      have n4_ := Aside0.mk (Kd.R_below HO277.out hb)
      have n5_ := Aside0.mk (Kd.R_below HO280.out hb)
      have n6_ := Aside0.mk (blk_below BK253.out hb)
      have n7_ := Aside0.mk (blk_below BK254.out hb)
      have n8_ := Aside0.mk (blk_below BK274.out hb)
      have n9_ := Aside0.mk (blk_below BK281.out hb)
      have n10_ := Aside0.mk (blk_below BK294.out hb)
      have n11_ := Aside0.mk (below_step HB.out hb)
      clear HO264
      clear HO267
      clear HO270
      clear HO273
      clear HO277
      clear HO280
      clear BK253
      clear BK254
      clear BK274
      clear BK281
      clear BK294
      clear HB
      have HO264 := n0_
      have HO267 := n1_
      have HO270 := n2_
      have HO273 := n3_
      have HO277 := n4_
      have HO280 := n5_
      have BK253 := n6_
      have BK254 := n7_
      have BK274 := n8_
      have BK281 := n9_
      have BK294 := n10_
      have HB := n11_
      clear n0_ n1_ n2_ n3_ n4_ n5_ n6_ n7_ n8_ n9_ n10_ n11_
      (try clear hb)
      (try clear hb2)
      (try clear hk)
      (try clear hi)
      refine hK.out _ _ ⟨(blk_cell BK253.out 0).trans rfl, (blk_cell BK253.out 1).trans rfl, (blk_cell BK253.out 2).trans rfl, (blk_cell BK253.out 3).trans rfl, (blk_cell BK253.out 4).trans rfl, (blk_cell BK253.out 5).trans rfl, (blk_cell BK281.out 0).trans rfl, (blk_cell BK281.out 1).trans rfl⟩ (fun hHeld => ?_)
      clear hK K
      refine norm_ (a' := ?_) ?_ ?_
      rotate_left
      ·show Act.put _ (some 26) _ = _
       simp only [Act.put, List.setIfInBounds_toArray, List.set_cons_zero, List.set_cons_succ, i64_w, i32_w]
       rfl
      refine one_ (i := 3) (N := some 28) #[true, true, true, true, true, false] rfl rfl (by kernel_rfl) (by decide) (fun K hK => ?_)
      refine goes_ Try.func55 (by kernel_rfl) rfl #[.agg #[.int .i64 t282, .int .i64 t283, .int .i64 t284, .int .i64 t285, .int .i64 t286, .int .i64 t287], .agg #[.slice Ao44 t275.length co44, .slice Ao49 t278.length co49]] (by rfl) rfl rfl (by (try simp only [List.map_toArray, List.map_cons, List.map_nil]); first | done | rfl | (simp only [List.length_drop, List.length_take]; rfl)) ?_
      with_reducible refine (impl_MovePath.calls k t282 t283 t284 t285 t286 t287 _ _ t275 _ _ t278 t288 t291 _ ?side1 ?side2 ?side3 ?side4 A15.out).mono ?_
      (case side1 => exact (Kd.R_reads' HO277.out).2.2)
      (case side2 => exact (Kd.R_reads' HO277.out).2.1)
      (case side3 => exact (Kd.R_reads' HO280.out).2.2)
      (case side4 => exact (Kd.R_reads' HO280.out).2.1)
      rintro e w54 ⟨v289, v292, rfl, ho0, ho1, hb⟩
      refine ⟨_, rfl, ?_⟩
      have n0_ := Aside0.mk (Kd.R_elder' HO264.out (Kd.R_base ho0) hb)
      have n1_ := Aside0.mk (Kd.R_elder' HO267.out (Kd.R_base ho1) hb)
      have n2_ := Aside0.mk (Kd.R_elder' HO270.out (Kd.R_base ho0) hb)
      have n3_ := Aside0.mk (Kd.R_elder' HO273.out (Kd.R_base ho1) hb)
      have n4_ := Aside0.mk (Kd.R_elder' HO277.out (Kd.R_base ho0) hb)
      have n5_ := Aside0.mk (Kd.R_elder' HO280.out (Kd.R_base ho1) hb)
      have n6_ := Aside0.mk (Kd.R_lower (Kd.R_new' (Kd.R_new' (Kd.R_new' ho0 (Kd.R_lt HO264.out)) (Kd.R_lt HO270.out)) (Kd.R_lt HO277.out)) (below_size HB.out))
      have n7_ := Aside0.mk (Kd.R_lower (Kd.R_new' (Kd.R_new' (Kd.R_new' ho1 (Kd.R_lt HO267.out)) (Kd.R_lt HO273.out)) (Kd.R_lt HO280.out)) (below_size HB.out))
      have n8_ := Aside0.mk (blk_below BK253.out hb)
      have n9_ := Aside0.mk (blk_below BK254.out hb)
      have n10_ := Aside0.mk (blk_below BK274.out hb)
      have n11_ := Aside0.mk (blk_below BK281.out hb)
      have n12_ := Aside0.mk (blk_below BK294.out hb)
      have n13_ := Aside0.mk (below_step HB.out hb)
      clear HO264
      clear HO267
      clear HO270
      clear HO273
      clear HO277
      clear HO280
      clear BK253
      clear BK254
      clear BK274
      clear BK281
      clear BK294
      clear HB
      have HO264 := n0_
      have HO267 := n1_
      have HO270 := n2_
      have HO273 := n3_
      have HO277 := n4_
      have HO280 := n5_
      have HO290 := n6_
      have HO293 := n7_
      have BK253 := n8_
      have BK254 := n9_
      have BK274 := n10_
      have BK281 := n11_
      have BK294 := n12_
      have HB := n13_
      clear n0_ n1_ n2_ n3_ n4_ n5_ n6_ n7_ n8_ n9_ n10_ n11_ n12_ n13_
      (try clear hb)
      (try clear hb2)
      (try clear hk)
      (try clear hi)
      (try clear ho0)
      (try clear ho1)
      refine hK.out _ _ ⟨(blk_cell BK253.out 0).trans rfl, (blk_cell BK253.out 1).trans rfl, (blk_cell BK253.out 2).trans rfl, (blk_cell BK253.out 3).trans rfl, (blk_cell BK253.out 4).trans rfl, (blk_cell BK253.out 5).trans rfl, (blk_cell BK281.out 0).trans rfl, (blk_cell BK281.out 1).trans rfl⟩ (fun hHeld => ?_)
      clear hK K
      refine norm_ (a' := ?_) ?_ ?_
      rotate_left
      ·show Act.put _ (some 28) _ = _
       simp only [Act.put, List.setIfInBounds_toArray, List.set_cons_zero, List.set_cons_succ, i64_w, i32_w]
       rfl
      exact norm_ (by simp only [putAll, Act.put, List.setIfInBounds_toArray, List.set_cons_zero, List.set_cons_succ]) (hCont (v289, v292, gb294) _ ⟨hHeld, (Kd.R_mono HO264.out (fun _ hk => ⟨hk.1.1, ⟨hk.1.2, hk.2⟩⟩)), (Kd.R_mono HO267.out (fun _ hk => ⟨hk.1.1, ⟨hk.1.2, hk.2⟩⟩)), (Kd.R_mono HO270.out (fun _ hk => ⟨hk.1.1, ⟨hk.1.2, hk.2⟩⟩)), (Kd.R_mono HO273.out (fun _ hk => ⟨hk.1.1, ⟨hk.1.2, hk.2⟩⟩)), (Kd.R_mono HO277.out (fun _ hk => ⟨hk.1.1, ⟨hk.1.2, hk.2⟩⟩)), (Kd.R_mono HO280.out (fun _ hk => ⟨hk.1.1, ⟨hk.1.2, hk.2⟩⟩)), (Kd.R_mono HO290.out (fun _ hk => ⟨hk.1.1.2, ⟨hk.1.2, hk.2⟩⟩)), (Kd.R_mono HO293.out (fun _ hk => ⟨hk.1.1.2, ⟨hk.1.2, hk.2⟩⟩)), BK253.out, BK254.out, BK274.out, BK281.out, BK294.out, GW294.out, GE294.out, NB253_294.out, NB294_253.out, NB254_294.out, NB294_254.out, NB274_294.out, NB294_274.out, NB281_294.out, NB294_281.out, HB.out⟩)
    rintro ⟨v289, v292, gb294⟩ w55 ⟨hS_, h0_, h1_, h2_, h3_, h4_, h5_, h6_, h7_, h8_, h9_, h10_, h11_, h12_, h13_, h14_, h15_, h16_, h17_, h18_, h19_, h20_, h21_, h22_, h23_⟩
    have n0_ : Aside0 (Kd.R (Kd.int .i64) 3 w55 w.heap.size (fun k_ => some k_ ≠ (.slice Ao36 t268.length co36 : Value).ownBlock ∧ some k_ ≠ (.slice Ao44 t275.length co44 : Value).ownBlock ∧ some k_ ≠ (v289 : Value).ownBlock) v263 t262) := ⟨h0_⟩
    have n1_ : Aside0 (Kd.R k24 24 w55 w.heap.size (fun k_ => some k_ ≠ (.slice Ao38 t271.length co38 : Value).ownBlock ∧ some k_ ≠ (.slice Ao49 t278.length co49 : Value).ownBlock ∧ some k_ ≠ (v292 : Value).ownBlock) v266 t265) := ⟨h1_⟩
    have n2_ : Aside0 (Kd.R (Kd.int .i64) 3 w55 w.heap.size (fun k_ => some k_ ≠ (v263 : Value).ownBlock ∧ some k_ ≠ (.slice Ao44 t275.length co44 : Value).ownBlock ∧ some k_ ≠ (v289 : Value).ownBlock) (.slice Ao36 t268.length co36) t268) := ⟨h2_⟩
    have n3_ : Aside0 (Kd.R k24 24 w55 w.heap.size (fun k_ => some k_ ≠ (v266 : Value).ownBlock ∧ some k_ ≠ (.slice Ao49 t278.length co49 : Value).ownBlock ∧ some k_ ≠ (v292 : Value).ownBlock) (.slice Ao38 t271.length co38) t271) := ⟨h3_⟩
    have n4_ : Aside0 (Kd.R (Kd.int .i64) 3 w55 w.heap.size (fun k_ => some k_ ≠ (v263 : Value).ownBlock ∧ some k_ ≠ (.slice Ao36 t268.length co36 : Value).ownBlock ∧ some k_ ≠ (v289 : Value).ownBlock) (.slice Ao44 t275.length co44) t275) := ⟨h4_⟩
    have n5_ : Aside0 (Kd.R k24 24 w55 w.heap.size (fun k_ => some k_ ≠ (v266 : Value).ownBlock ∧ some k_ ≠ (.slice Ao38 t271.length co38 : Value).ownBlock ∧ some k_ ≠ (v292 : Value).ownBlock) (.slice Ao49 t278.length co49) t278) := ⟨h5_⟩
    have n6_ : Aside0 (Kd.R (Kd.int .i64) 3 w55 w.heap.size (fun k_ => some k_ ≠ (v263 : Value).ownBlock ∧ some k_ ≠ (.slice Ao36 t268.length co36 : Value).ownBlock ∧ some k_ ≠ (.slice Ao44 t275.length co44 : Value).ownBlock) v289 t288) := ⟨h6_⟩
    have n7_ : Aside0 (Kd.R k24 24 w55 w.heap.size (fun k_ => some k_ ≠ (v266 : Value).ownBlock ∧ some k_ ≠ (.slice Ao38 t271.length co38 : Value).ownBlock ∧ some k_ ≠ (.slice Ao49 t278.length co49 : Value).ownBlock) v292 t291) := ⟨h7_⟩
    have n8_ : Aside0 (w55.heap[gb253]? = some (.cells #[.int .i64 a0_0, .int .i64 a0_1, .int .i64 a0_2, .int .i64 a0_3, .int .i64 a0_4, .int .i64 a0_5] 32 (0, 0))) := ⟨h8_⟩
    have n9_ : Aside0 (w55.heap[gb254]? = some (.cells #[.slice A1_0 l1_0.length c1_0, .slice A1_1 l1_1.length c1_1] 64 (0, 0))) := ⟨h9_⟩
    have n10_ : Aside0 (w55.heap[gb274]? = some (.cells #[.slice Ao36 t268.length co36, .slice Ao38 t271.length co38] 50 (0, 0))) := ⟨h10_⟩
    have n11_ : Aside0 (w55.heap[gb281]? = some (.cells #[.slice Ao44 t275.length co44, .slice Ao49 t278.length co49] 50 (0, 0))) := ⟨h11_⟩
    have n12_ : Aside0 (w55.heap[gb294]? = some (.cells #[.slice none 0 0, .slice none 0 0] 50 (0, 0))) := ⟨h12_⟩
    have n13_ : Aside0 (w.heap.size ≤ gb294) := ⟨h13_⟩
    have n14_ : Aside0 (w.heap.size ≤ gb294) := ⟨h14_⟩
    have n15_ : Aside0 (gb253 ≠ gb294) := ⟨h15_⟩
    have n16_ : Aside0 (gb294 ≠ gb253) := ⟨h16_⟩
    have n17_ : Aside0 (gb254 ≠ gb294) := ⟨h17_⟩
    have n18_ : Aside0 (gb294 ≠ gb254) := ⟨h18_⟩
    have n19_ : Aside0 (gb274 ≠ gb294) := ⟨h19_⟩
    have n20_ : Aside0 (gb294 ≠ gb274) := ⟨h20_⟩
    have n21_ : Aside0 (gb281 ≠ gb294) := ⟨h21_⟩
    have n22_ : Aside0 (gb294 ≠ gb281) := ⟨h22_⟩
    have n23_ : Aside0 (Below w.heap.size w w55) := ⟨h23_⟩
    clear HO264
    clear HO267
    clear HO270
    clear HO273
    clear HO277
    clear HO280
    clear BK253
    clear BK254
    clear BK274
    clear BK281
    clear HB
    clear h0_ h1_ h2_ h3_ h4_ h5_ h6_ h7_ h8_ h9_ h10_ h11_ h12_ h13_ h14_ h15_ h16_ h17_ h18_ h19_ h20_ h21_ h22_ h23_
    have HO264 := n0_
    have HO267 := n1_
    have HO270 := n2_
    have HO273 := n3_
    have HO277 := n4_
    have HO280 := n5_
    have HO290 := n6_
    have HO293 := n7_
    have BK253 := n8_
    have BK254 := n9_
    have BK274 := n10_
    have BK281 := n11_
    have BK294 := n12_
    have GW294 := n13_
    have GE294 := n14_
    have NB253_294 := n15_
    have NB294_253 := n16_
    have NB254_294 := n17_
    have NB294_254 := n18_
    have NB274_294 := n19_
    have NB294_274 := n20_
    have NB281_294 := n21_
    have NB294_281 := n22_
    have HB := n23_
    clear n0_ n1_ n2_ n3_ n4_ n5_ n6_ n7_ n8_ n9_ n10_ n11_ n12_ n13_ n14_ n15_ n16_ n17_ n18_ n19_ n20_ n21_ n22_ n23_
    have hHeld : w55.cell? ⟨gb253, 0, none⟩ = some (.int .i64 a0_0) ∧ w55.cell? ⟨gb253, 1, none⟩ = some (.int .i64 a0_1) ∧ w55.cell? ⟨gb253, 2, none⟩ = some (.int .i64 a0_2) ∧ w55.cell? ⟨gb253, 3, none⟩ = some (.int .i64 a0_3) ∧ w55.cell? ⟨gb253, 4, none⟩ = some (.int .i64 a0_4) ∧ w55.cell? ⟨gb253, 5, none⟩ = some (.int .i64 a0_5) ∧ w55.cell? ⟨gb281, 0, none⟩ = some (.slice Ao44 t275.length co44) ∧ w55.cell? ⟨gb281, 1, none⟩ = some (.slice Ao49 t278.length co49) := hS_
    obtain ⟨Ao56, co56, eo56⟩ := Kd.R_slice HO290.out
    (first | subst eo56 | (injection eo56 with f1_ f2_ f3_; have f4_ := f1_.symm; have f5_ := f3_.symm; clear f1_ f2_ f3_; subst f4_; subst f5_))
    obtain ⟨Ao58, co58, eo58⟩ := Kd.R_slice HO293.out
    (first | subst eo58 | (injection eo58 with f1_ f2_ f3_; have f4_ := f1_.symm; have f5_ := f3_.symm; clear f1_ f2_ f3_; subst f4_; subst f5_))
    refine norm_ (a' := ?_) ?_ ?_
    rotate_left
    ·simp only [putAll, Act.put, List.setIfInBounds_toArray, List.set_cons_zero, List.set_cons_succ]
     rfl
    refine one_ (i := 5) (N := none) #[true, true, true, true, true, true] rfl rfl (by kernel_rfl) (by decide) (fun K hK => ?_)
    have hs57 : w55.cell? ⟨gb294, 0, none⟩ = some (.slice none 0 0) := (blk_cell BK294.out 0).trans rfl
    have hfs57 := blk_frozen BK294.out 0
    have hns57_0 := NB253_294.out
    have hns57_1 := NB254_294.out
    have hns57_2 := NB274_294.out
    have hns57_3 := NB281_294.out
    have hms57_0 := NB294_253.out
    have hms57_1 := NB294_254.out
    have hms57_2 := NB294_274.out
    have hms57_3 := NB294_281.out
    have hs59 : w55.cell? ⟨gb294, 1, none⟩ = some (.slice none 0 0) := (blk_cell BK294.out 1).trans rfl
    have hfs59 := blk_frozen BK294.out 1
    have hns59_0 := NB253_294.out
    have hns59_1 := NB254_294.out
    have hns59_2 := NB274_294.out
    have hns59_3 := NB281_294.out
    have hms59_0 := NB294_253.out
    have hms59_1 := NB294_254.out
    have hms59_2 := NB294_274.out
    have hms59_3 := NB294_281.out
    refine skip_ (w1 := ?_) (by rfl) rfl ?_ ?_
    rotate_left
    ·go_simp
     rfl
    refine hK.out _ _ ⟨((cell_far (p := ⟨gb294, _, none⟩) NB253_294.out _).trans (((cell_far (p := ⟨gb294, _, none⟩) NB253_294.out _).trans (hHeld.1)))), ((cell_far (p := ⟨gb294, _, none⟩) NB253_294.out _).trans (((cell_far (p := ⟨gb294, _, none⟩) NB253_294.out _).trans (hHeld.2.1)))), ((cell_far (p := ⟨gb294, _, none⟩) NB253_294.out _).trans (((cell_far (p := ⟨gb294, _, none⟩) NB253_294.out _).trans (hHeld.2.2.1)))), ((cell_far (p := ⟨gb294, _, none⟩) NB253_294.out _).trans (((cell_far (p := ⟨gb294, _, none⟩) NB253_294.out _).trans (hHeld.2.2.2.1)))), ((cell_far (p := ⟨gb294, _, none⟩) NB253_294.out _).trans (((cell_far (p := ⟨gb294, _, none⟩) NB253_294.out _).trans (hHeld.2.2.2.2.1)))), ((cell_far (p := ⟨gb294, _, none⟩) NB253_294.out _).trans (((cell_far (p := ⟨gb294, _, none⟩) NB253_294.out _).trans (hHeld.2.2.2.2.2.1)))), ((cell_far (p := ⟨gb294, _, none⟩) NB281_294.out _).trans (((cell_far (p := ⟨gb294, _, none⟩) NB281_294.out _).trans (hHeld.2.2.2.2.2.2.1)))), ((cell_far (p := ⟨gb294, _, none⟩) NB281_294.out _).trans (((cell_far (p := ⟨gb294, _, none⟩) NB281_294.out _).trans (hHeld.2.2.2.2.2.2.2))))⟩ (fun hHeld => ?_)
    clear hK K
    refine done_ (by kernel_rfl) ?_
    have hnb60 := NB294_253.out
    have hnc60 := NB253_294.out
    have hnb61 := NB294_254.out
    have hnc61 := NB254_294.out
    have hnb62 := NB294_274.out
    have hnc62 := NB274_294.out
    have hnb63 := NB294_281.out
    have hnc63 := NB281_294.out
    have hcz64_0 : w55.cell? ⟨gb294, 0, none⟩ = some (.slice none 0 0) := (blk_cell BK294.out 0).trans rfl
    have hcz64_1 : w55.cell? ⟨gb294, 1, none⟩ = some (.slice none 0 0) := (blk_cell BK294.out 1).trans rfl
    have hfz64_0 := blk_frozen BK294.out 0
    have hfz64_1 := blk_frozen BK294.out 1
    have hnb65 := NB274_253.out
    have hnc65 := NB253_274.out
    have hcz66_0 : w55.cell? ⟨gb274, 0, none⟩ = some (.slice Ao36 t268.length co36) := (blk_cell BK274.out 0).trans rfl
    have hcz66_1 : w55.cell? ⟨gb274, 1, none⟩ = some (.slice Ao38 t271.length co38) := (blk_cell BK274.out 1).trans rfl
    have hfz66_0 := blk_frozen BK274.out 0
    have hfz66_1 := blk_frozen BK274.out 1
    try go_wp2_with (first | ((with_reducible refine gate_callee (f := 32) rfl ?_); refine goesL_ (some 31) rfl rfl Try.func32 (by kernel_rfl) rfl #[.agg #[.slice Ao56 t288.length co56, .slice Ao58 t291.length co58], .agg #[.slice Ao36 t268.length co36, .slice Ao38 t271.length co38]] rfl (by (try simp only [List.map_toArray, List.map_cons, List.map_nil]); first | done | rfl | (simp only [List.length_drop, List.length_take]; rfl)) ?_; (with_reducible refine (laws_eqPath.calls k _ _ t288 _ _ t291 _ _ t268 _ _ t271 true _ ?side1 ?side2 ?side3 ?side4 ?side5 ?side6 ?side7 ?side8 A16.out).mono ?_); (case side1 => refine (Kd.R_reads' (e := 3) (base := w.heap.size) (ok := fun k_ => (some k_ ≠ (v263 : Value).ownBlock ∧ (some k_ ≠ (.slice Ao36 t268.length co36 : Value).ownBlock ∧ some k_ ≠ (.slice Ao44 t275.length co44 : Value).ownBlock))) (n := t288.length) (c := co56) ?_).2.2; exact (by (with_reducible repeat (first | apply Kd.R_alloc | apply Kd.R_drewN | apply Kd.R_drew)); exact (Kd.R_mono (Kd.R_far (p := ⟨gb294, 1, none⟩) (Kd.R_far (p := ⟨gb294, 0, none⟩) (Kd.R_types HO290.out BK294.out (by decide)) (fun _ hk => hk.2) (.slice Ao56 t288.length co56)) (fun _ hk => hk.2) (.slice Ao58 t291.length co58)) (fun _ h_ => h_.1)))); (case side2 => exact (Kd.R_reads' HO290.out).2.1); (case side3 => refine (Kd.R_reads' (e := 24) (base := w.heap.size) (ok := fun k_ => (some k_ ≠ (v266 : Value).ownBlock ∧ (some k_ ≠ (.slice Ao38 t271.length co38 : Value).ownBlock ∧ some k_ ≠ (.slice Ao49 t278.length co49 : Value).ownBlock))) (n := t291.length) (c := co58) ?_).2.2; exact (by (with_reducible repeat (first | apply Kd.R_alloc | apply Kd.R_drewN | apply Kd.R_drew)); exact (Kd.R_mono (Kd.R_far (p := ⟨gb294, 1, none⟩) (Kd.R_far (p := ⟨gb294, 0, none⟩) (Kd.R_types HO293.out BK294.out (by decide)) (fun _ hk => hk.2) (.slice Ao56 t288.length co56)) (fun _ hk => hk.2) (.slice Ao58 t291.length co58)) (fun _ h_ => h_.1)))); (case side4 => exact (Kd.R_reads' HO293.out).2.1); (case side5 => refine (Kd.R_reads' (e := 3) (base := w.heap.size) (ok := fun k_ => (some k_ ≠ (v263 : Value).ownBlock ∧ (some k_ ≠ (.slice Ao44 t275.length co44 : Value).ownBlock ∧ some k_ ≠ (.slice Ao56 t288.length co56 : Value).ownBlock))) (n := t268.length) (c := co36) ?_).2.2; exact (by (with_reducible repeat (first | apply Kd.R_alloc | apply Kd.R_drewN | apply Kd.R_drew)); exact (Kd.R_mono (Kd.R_far (p := ⟨gb294, 1, none⟩) (Kd.R_far (p := ⟨gb294, 0, none⟩) (Kd.R_types HO270.out BK294.out (by decide)) (fun _ hk => hk.2) (.slice Ao56 t288.length co56)) (fun _ hk => hk.2) (.slice Ao58 t291.length co58)) (fun _ h_ => h_.1)))); (case side6 => exact (Kd.R_reads' HO270.out).2.1); (case side7 => refine (Kd.R_reads' (e := 24) (base := w.heap.size) (ok := fun k_ => (some k_ ≠ (v266 : Value).ownBlock ∧ (some k_ ≠ (.slice Ao49 t278.length co49 : Value).ownBlock ∧ some k_ ≠ (.slice Ao58 t291.length co58 : Value).ownBlock))) (n := t271.length) (c := co38) ?_).2.2; exact (by (with_reducible repeat (first | apply Kd.R_alloc | apply Kd.R_drewN | apply Kd.R_drew)); exact (Kd.R_mono (Kd.R_far (p := ⟨gb294, 1, none⟩) (Kd.R_far (p := ⟨gb294, 0, none⟩) (Kd.R_types HO273.out BK294.out (by decide)) (fun _ hk => hk.2) (.slice Ao56 t288.length co56)) (fun _ hk => hk.2) (.slice Ao58 t291.length co58)) (fun _ h_ => h_.1)))); (case side8 => exact (Kd.R_reads' HO273.out).2.1); rintro e w67 ⟨rfl, hb⟩; refine ⟨_, rfl, ?_⟩; have n0_ := Aside0.mk (Kd.R_below (by (with_reducible repeat (first | apply Kd.R_alloc | apply Kd.R_drewN | apply Kd.R_drew)); exact (Kd.R_mono (Kd.R_far (p := ⟨gb294, 1, none⟩) (Kd.R_far (p := ⟨gb294, 0, none⟩) (Kd.R_types HO264.out BK294.out (by decide)) (fun _ hk => hk.2) (.slice Ao56 t288.length co56)) (fun _ hk => hk.2) (.slice Ao58 t291.length co58)) (fun _ h_ => h_.1))) hb); have n1_ := Aside0.mk (Kd.R_below (by (with_reducible repeat (first | apply Kd.R_alloc | apply Kd.R_drewN | apply Kd.R_drew)); exact (Kd.R_mono (Kd.R_far (p := ⟨gb294, 1, none⟩) (Kd.R_far (p := ⟨gb294, 0, none⟩) (Kd.R_types HO267.out BK294.out (by decide)) (fun _ hk => hk.2) (.slice Ao56 t288.length co56)) (fun _ hk => hk.2) (.slice Ao58 t291.length co58)) (fun _ h_ => h_.1))) hb); have n2_ := Aside0.mk (Kd.R_below (by (with_reducible repeat (first | apply Kd.R_alloc | apply Kd.R_drewN | apply Kd.R_drew)); exact (Kd.R_mono (Kd.R_far (p := ⟨gb294, 1, none⟩) (Kd.R_far (p := ⟨gb294, 0, none⟩) (Kd.R_types HO270.out BK294.out (by decide)) (fun _ hk => hk.2) (.slice Ao56 t288.length co56)) (fun _ hk => hk.2) (.slice Ao58 t291.length co58)) (fun _ h_ => h_.1))) hb); have n3_ := Aside0.mk (Kd.R_below (by (with_reducible repeat (first | apply Kd.R_alloc | apply Kd.R_drewN | apply Kd.R_drew)); exact (Kd.R_mono (Kd.R_far (p := ⟨gb294, 1, none⟩) (Kd.R_far (p := ⟨gb294, 0, none⟩) (Kd.R_types HO273.out BK294.out (by decide)) (fun _ hk => hk.2) (.slice Ao56 t288.length co56)) (fun _ hk => hk.2) (.slice Ao58 t291.length co58)) (fun _ h_ => h_.1))) hb); have n4_ := Aside0.mk (Kd.R_below (by (with_reducible repeat (first | apply Kd.R_alloc | apply Kd.R_drewN | apply Kd.R_drew)); exact (Kd.R_mono (Kd.R_far (p := ⟨gb294, 1, none⟩) (Kd.R_far (p := ⟨gb294, 0, none⟩) (Kd.R_types HO277.out BK294.out (by decide)) (fun _ hk => hk.2) (.slice Ao56 t288.length co56)) (fun _ hk => hk.2) (.slice Ao58 t291.length co58)) (fun _ h_ => h_.1))) hb); have n5_ := Aside0.mk (Kd.R_below (by (with_reducible repeat (first | apply Kd.R_alloc | apply Kd.R_drewN | apply Kd.R_drew)); exact (Kd.R_mono (Kd.R_far (p := ⟨gb294, 1, none⟩) (Kd.R_far (p := ⟨gb294, 0, none⟩) (Kd.R_types HO280.out BK294.out (by decide)) (fun _ hk => hk.2) (.slice Ao56 t288.length co56)) (fun _ hk => hk.2) (.slice Ao58 t291.length co58)) (fun _ h_ => h_.1))) hb); have n6_ := Aside0.mk (Kd.R_below (by (with_reducible repeat (first | apply Kd.R_alloc | apply Kd.R_drewN | apply Kd.R_drew)); exact (Kd.R_mono (Kd.R_far (p := ⟨gb294, 1, none⟩) (Kd.R_far (p := ⟨gb294, 0, none⟩) (Kd.R_types HO290.out BK294.out (by decide)) (fun _ hk => hk.2) (.slice Ao56 t288.length co56)) (fun _ hk => hk.2) (.slice Ao58 t291.length co58)) (fun _ h_ => h_.1))) hb); have n7_ := Aside0.mk (Kd.R_below (by (with_reducible repeat (first | apply Kd.R_alloc | apply Kd.R_drewN | apply Kd.R_drew)); exact (Kd.R_mono (Kd.R_far (p := ⟨gb294, 1, none⟩) (Kd.R_far (p := ⟨gb294, 0, none⟩) (Kd.R_types HO293.out BK294.out (by decide)) (fun _ hk => hk.2) (.slice Ao56 t288.length co56)) (fun _ hk => hk.2) (.slice Ao58 t291.length co58)) (fun _ h_ => h_.1))) hb); have n8_ := Aside0.mk (blk_below (g := gb253) (o := .cells #[.int .i64 a0_0, .int .i64 a0_1, .int .i64 a0_2, .int .i64 a0_3, .int .i64 a0_4, .int .i64 a0_5] 32 (0, 0)) (by (with_reducible repeat (first | refine blk_drewN ?_ _ | refine blk_drew ?_ | refine blk_alloc ?_ _)); refine blk_far ?_ NB253_294.out _; (with_reducible repeat (first | refine blk_drewN ?_ _ | refine blk_drew ?_ | refine blk_alloc ?_ _)); refine blk_far ?_ NB253_294.out _; (with_reducible repeat (first | refine blk_drewN ?_ _ | refine blk_drew ?_ | refine blk_alloc ?_ _)); exact BK253.out) hb); have n9_ := Aside0.mk (blk_below (g := gb254) (o := .cells #[.slice A1_0 l1_0.length c1_0, .slice A1_1 l1_1.length c1_1] 64 (0, 0)) (by (with_reducible repeat (first | refine blk_drewN ?_ _ | refine blk_drew ?_ | refine blk_alloc ?_ _)); refine blk_far ?_ NB254_294.out _; (with_reducible repeat (first | refine blk_drewN ?_ _ | refine blk_drew ?_ | refine blk_alloc ?_ _)); refine blk_far ?_ NB254_294.out _; (with_reducible repeat (first | refine blk_drewN ?_ _ | refine blk_drew ?_ | refine blk_alloc ?_ _)); exact BK254.out) hb); have n10_ := Aside0.mk (blk_below (g := gb274) (o := .cells #[.slice Ao36 t268.length co36, .slice Ao38 t271.length co38] 50 (0, 0)) (by (with_reducible repeat (first | refine blk_drewN ?_ _ | refine blk_drew ?_ | refine blk_alloc ?_ _)); refine blk_far ?_ NB274_294.out _; (with_reducible repeat (first | refine blk_drewN ?_ _ | refine blk_drew ?_ | refine blk_alloc ?_ _)); refine blk_far ?_ NB274_294.out _; (with_reducible repeat (first | refine blk_drewN ?_ _ | refine blk_drew ?_ | refine blk_alloc ?_ _)); exact BK274.out) hb); have n11_ := Aside0.mk (blk_below (g := gb281) (o := .cells #[.slice Ao44 t275.length co44, .slice Ao49 t278.length co49] 50 (0, 0)) (by (with_reducible repeat (first | refine blk_drewN ?_ _ | refine blk_drew ?_ | refine blk_alloc ?_ _)); refine blk_far ?_ NB281_294.out _; (with_reducible repeat (first | refine blk_drewN ?_ _ | refine blk_drew ?_ | refine blk_alloc ?_ _)); refine blk_far ?_ NB281_294.out _; (with_reducible repeat (first | refine blk_drewN ?_ _ | refine blk_drew ?_ | refine blk_alloc ?_ _)); exact BK281.out) hb); have n12_ := Aside0.mk (blk_below (g := gb294) (o := .cells #[.slice Ao56 t288.length co56, .slice Ao58 t291.length co58] 50 (0, 0)) (by (with_reducible repeat (first | refine blk_drewN ?_ _ | refine blk_drew ?_ | refine blk_alloc ?_ _)); refine blk_put (cs := #[.slice Ao56 t288.length co56, .slice none 0 0]) ?_ 1 _ rfl; (with_reducible repeat (first | refine blk_drewN ?_ _ | refine blk_drew ?_ | refine blk_alloc ?_ _)); refine blk_put (cs := #[.slice none 0 0, .slice none 0 0]) ?_ 0 _ rfl; (with_reducible repeat (first | refine blk_drewN ?_ _ | refine blk_drew ?_ | refine blk_alloc ?_ _)); exact BK294.out) hb); have n13_ := Aside0.mk (below_step (by repeat (first | (with_reducible first | exact HB.out | apply below_alloc | apply pw_below_drewN | apply below_drew1 | refine below_set ?_ GE253.out | refine below_set ?_ GE254.out | refine below_set ?_ GE274.out | refine below_set ?_ GE281.out | refine below_set ?_ GE294.out) | exact HB.out)) hb); clear HO264; clear HO267; clear HO270; clear HO273; clear HO277; clear HO280; clear HO290; clear HO293; clear BK253; clear BK254; clear BK274; clear BK281; clear BK294; clear HB; have HO264 := n0_; have HO267 := n1_; have HO270 := n2_; have HO273 := n3_; have HO277 := n4_; have HO280 := n5_; have HO290 := n6_; have HO293 := n7_; have BK253 := n8_; have BK254 := n9_; have BK274 := n10_; have BK281 := n11_; have BK294 := n12_; have HB := n13_; clear n0_ n1_ n2_ n3_ n4_ n5_ n6_ n7_ n8_ n9_ n10_ n11_ n12_ n13_; (try clear hb); (try clear hb2); (try clear hk); (try clear hi)))
    have n0_ := Aside0.mk (Kd.R_drew HO264.out)
    have n1_ := Aside0.mk (Kd.R_drew HO267.out)
    have n2_ := Aside0.mk (Kd.R_drew HO270.out)
    have n3_ := Aside0.mk (Kd.R_drew HO273.out)
    have n4_ := Aside0.mk (Kd.R_drew HO277.out)
    have n5_ := Aside0.mk (Kd.R_drew HO280.out)
    have n6_ := Aside0.mk (Kd.R_drew HO290.out)
    have n7_ := Aside0.mk (Kd.R_drew HO293.out)
    have n8_ := Aside0.mk (blk_drew BK253.out)
    have n9_ := Aside0.mk (blk_drew BK254.out)
    have n10_ := Aside0.mk (blk_drew BK274.out)
    have n11_ := Aside0.mk (blk_drew BK281.out)
    have n12_ := Aside0.mk (blk_drew BK294.out)
    have n13_ := Aside0.mk (below_drew1 HB.out)
    clear HO264
    clear HO267
    clear HO270
    clear HO273
    clear HO277
    clear HO280
    clear HO290
    clear HO293
    clear BK253
    clear BK254
    clear BK274
    clear BK281
    clear BK294
    clear HB
    have HO264 := n0_
    have HO267 := n1_
    have HO270 := n2_
    have HO273 := n3_
    have HO277 := n4_
    have HO280 := n5_
    have HO290 := n6_
    have HO293 := n7_
    have BK253 := n8_
    have BK254 := n9_
    have BK274 := n10_
    have BK281 := n11_
    have BK294 := n12_
    have HB := n13_
    clear n0_ n1_ n2_ n3_ n4_ n5_ n6_ n7_ n8_ n9_ n10_ n11_ n12_ n13_
    refine start_ (n := 5) (S := fun w' => w'.cell? ⟨gb281, 0, none⟩ = some (.slice Ao44 t275.length co44) ∧ w'.cell? ⟨gb281, 1, none⟩ = some (.slice Ao49 t278.length co49) ∧ w'.cell? ⟨gb254, 0, none⟩ = some (.slice A1_0 l1_0.length c1_0) ∧ w'.cell? ⟨gb254, 1, none⟩ = some (.slice A1_1 l1_1.length c1_1)) (ds := []) #[false, false, false, false, false] (by kernel_rfl) rfl rfl ⟨(blk_cell BK281.out 0).trans rfl, (blk_cell BK281.out 1).trans rfl, (blk_cell BK254.out 0).trans rfl, (blk_cell BK254.out 1).trans rfl⟩ (fun hHeld => ?_)
    generalize w67.drew = w68 at HO264 HO267 HO270 HO273 HO277 HO280 HO290 HO293 BK253 BK254 BK274 BK281 BK294 HB hHeld ⊢
    refine take_ (i := 0) (N := some 33) (v := ?_) (a' := ?_) #[true, false, false, false, false] rfl rfl (by kernel_rfl) (fun _ _ _ h => h) (Or.inl ⟨by rfl, ?_⟩) hHeld ?_ ?_
    rotate_left
    ·rintro w' ⟨s0, s1, s2, s3⟩
     go_simp
     with_reducible rfl
    rotate_left
    ·simp only [Act.put, List.setIfInBounds_toArray, List.set_cons_zero, List.set_cons_succ, i64_w, i32_w]
     rfl
    refine take_ (i := 1) (N := some 34) (v := ?_) (a' := ?_) #[true, true, false, false, false] rfl rfl (by kernel_rfl) (fun _ _ _ h => h) (Or.inl ⟨by rfl, ?_⟩) hHeld ?_ ?_
    rotate_left
    ·rintro w' ⟨s0, s1, s2, s3⟩
     go_simp
     with_reducible rfl
    rotate_left
    ·simp only [Act.put, List.setIfInBounds_toArray, List.set_cons_zero, List.set_cons_succ, i64_w, i32_w]
     rfl
    refine one_ (i := 2) (N := some 35) #[true, true, true, false, false] rfl rfl (by kernel_rfl) (by decide) (fun K hK => ?_)
    refine goes_ Try.func44 (by kernel_rfl) rfl #[.agg #[.slice A1_0 l1_0.length c1_0, .slice A1_1 l1_1.length c1_1]] (by rfl) rfl rfl (by (try simp only [List.map_toArray, List.map_cons, List.map_nil]); first | done | rfl | (simp only [List.length_drop, List.length_take]; rfl)) ?_
    with_reducible refine (laws_toPath.calls k _ _ l1_0 _ _ l1_1 t296 t299 _ ?side1 ?side2 ?side3 ?side4 A18.out).mono ?_
    (case side1 => exact (Kd.C_below HR1_0.out HB.out))
    (case side2 => exact HC1_0.out)
    (case side3 => exact (Kd.C_below HR1_1.out HB.out))
    (case side4 => exact HC1_1.out)
    rintro e w69 ⟨v297, v300, rfl, ho0, ho1, hb⟩
    refine ⟨_, rfl, ?_⟩
    have n0_ := Aside0.mk (Kd.R_elder' HO264.out (Kd.R_base ho0) hb)
    have n1_ := Aside0.mk (Kd.R_elder' HO267.out (Kd.R_base ho1) hb)
    have n2_ := Aside0.mk (Kd.R_elder' HO270.out (Kd.R_base ho0) hb)
    have n3_ := Aside0.mk (Kd.R_elder' HO273.out (Kd.R_base ho1) hb)
    have n4_ := Aside0.mk (Kd.R_elder' HO277.out (Kd.R_base ho0) hb)
    have n5_ := Aside0.mk (Kd.R_elder' HO280.out (Kd.R_base ho1) hb)
    have n6_ := Aside0.mk (Kd.R_elder' HO290.out (Kd.R_base ho0) hb)
    have n7_ := Aside0.mk (Kd.R_elder' HO293.out (Kd.R_base ho1) hb)
    have n8_ := Aside0.mk (Kd.R_lower (Kd.R_new' (Kd.R_new' (Kd.R_new' (Kd.R_new' ho0 (Kd.R_lt HO264.out)) (Kd.R_lt HO270.out)) (Kd.R_lt HO277.out)) (Kd.R_lt HO290.out)) (below_size HB.out))
    have n9_ := Aside0.mk (Kd.R_lower (Kd.R_new' (Kd.R_new' (Kd.R_new' (Kd.R_new' ho1 (Kd.R_lt HO267.out)) (Kd.R_lt HO273.out)) (Kd.R_lt HO280.out)) (Kd.R_lt HO293.out)) (below_size HB.out))
    have n10_ := Aside0.mk (blk_below BK253.out hb)
    have n11_ := Aside0.mk (blk_below BK254.out hb)
    have n12_ := Aside0.mk (blk_below BK274.out hb)
    have n13_ := Aside0.mk (blk_below BK281.out hb)
    have n14_ := Aside0.mk (blk_below BK294.out hb)
    have n15_ := Aside0.mk (below_step HB.out hb)
    clear HO264
    clear HO267
    clear HO270
    clear HO273
    clear HO277
    clear HO280
    clear HO290
    clear HO293
    clear BK253
    clear BK254
    clear BK274
    clear BK281
    clear BK294
    clear HB
    have HO264 := n0_
    have HO267 := n1_
    have HO270 := n2_
    have HO273 := n3_
    have HO277 := n4_
    have HO280 := n5_
    have HO290 := n6_
    have HO293 := n7_
    have HO298 := n8_
    have HO301 := n9_
    have BK253 := n10_
    have BK254 := n11_
    have BK274 := n12_
    have BK281 := n13_
    have BK294 := n14_
    have HB := n15_
    clear n0_ n1_ n2_ n3_ n4_ n5_ n6_ n7_ n8_ n9_ n10_ n11_ n12_ n13_ n14_ n15_
    (try clear hb)
    (try clear hb2)
    (try clear hk)
    (try clear hi)
    (try clear ho0)
    (try clear ho1)
    obtain ⟨Ao70, co70, eo70⟩ := Kd.R_slice HO298.out
    (first | subst eo70 | (injection eo70 with f1_ f2_ f3_; have f4_ := f1_.symm; have f5_ := f3_.symm; clear f1_ f2_ f3_; subst f4_; subst f5_))
    obtain ⟨Ao71, co71, eo71⟩ := Kd.R_slice HO301.out
    (first | subst eo71 | (injection eo71 with f1_ f2_ f3_; have f4_ := f1_.symm; have f5_ := f3_.symm; clear f1_ f2_ f3_; subst f4_; subst f5_))
    refine hK.out _ _ ⟨(blk_cell BK281.out 0).trans rfl, (blk_cell BK281.out 1).trans rfl, (blk_cell BK254.out 0).trans rfl, (blk_cell BK254.out 1).trans rfl⟩ (fun hHeld => ?_)
    clear hK K
    refine norm_ (a' := ?_) ?_ ?_
    rotate_left
    ·show Act.put _ (some 35) _ = _
     simp only [Act.put, List.setIfInBounds_toArray, List.set_cons_zero, List.set_cons_succ, i64_w, i32_w]
     rfl
    refine one_ (i := 3) (N := some 36) #[true, true, true, true, false] rfl rfl (by kernel_rfl) (by decide) (fun K hK => ?_)
    refine goes_ Try.func32 (by kernel_rfl) rfl #[.agg #[.slice Ao44 t275.length co44, .slice Ao49 t278.length co49], .agg #[.slice Ao70 t296.length co70, .slice Ao71 t299.length co71]] (by rfl) rfl rfl (by (try simp only [List.map_toArray, List.map_cons, List.map_nil]); first | done | rfl | (simp only [List.length_drop, List.length_take]; rfl)) ?_
    with_reducible refine (laws_eqPath.calls k _ _ t275 _ _ t278 _ _ t296 _ _ t299 true _ ?side1 ?side2 ?side3 ?side4 ?side5 ?side6 ?side7 ?side8 A19.out).mono ?_
    (case side1 => exact (Kd.R_reads' HO277.out).2.2)
    (case side2 => exact (Kd.R_reads' HO277.out).2.1)
    (case side3 => exact (Kd.R_reads' HO280.out).2.2)
    (case side4 => exact (Kd.R_reads' HO280.out).2.1)
    (case side5 => exact (Kd.R_reads' HO298.out).2.2)
    (case side6 => exact (Kd.R_reads' HO298.out).2.1)
    (case side7 => exact (Kd.R_reads' HO301.out).2.2)
    (case side8 => exact (Kd.R_reads' HO301.out).2.1)
    rintro e w72 ⟨rfl, hb⟩
    refine ⟨_, rfl, ?_⟩
    have n0_ := Aside0.mk (Kd.R_below HO264.out hb)
    have n1_ := Aside0.mk (Kd.R_below HO267.out hb)
    have n2_ := Aside0.mk (Kd.R_below HO270.out hb)
    have n3_ := Aside0.mk (Kd.R_below HO273.out hb)
    have n4_ := Aside0.mk (Kd.R_below HO277.out hb)
    have n5_ := Aside0.mk (Kd.R_below HO280.out hb)
    have n6_ := Aside0.mk (Kd.R_below HO290.out hb)
    have n7_ := Aside0.mk (Kd.R_below HO293.out hb)
    have n8_ := Aside0.mk (Kd.R_below HO298.out hb)
    have n9_ := Aside0.mk (Kd.R_below HO301.out hb)
    have n10_ := Aside0.mk (blk_below BK253.out hb)
    have n11_ := Aside0.mk (blk_below BK254.out hb)
    have n12_ := Aside0.mk (blk_below BK274.out hb)
    have n13_ := Aside0.mk (blk_below BK281.out hb)
    have n14_ := Aside0.mk (blk_below BK294.out hb)
    have n15_ := Aside0.mk (below_step HB.out hb)
    clear HO264
    clear HO267
    clear HO270
    clear HO273
    clear HO277
    clear HO280
    clear HO290
    clear HO293
    clear HO298
    clear HO301
    clear BK253
    clear BK254
    clear BK274
    clear BK281
    clear BK294
    clear HB
    have HO264 := n0_
    have HO267 := n1_
    have HO270 := n2_
    have HO273 := n3_
    have HO277 := n4_
    have HO280 := n5_
    have HO290 := n6_
    have HO293 := n7_
    have HO298 := n8_
    have HO301 := n9_
    have BK253 := n10_
    have BK254 := n11_
    have BK274 := n12_
    have BK281 := n13_
    have BK294 := n14_
    have HB := n15_
    clear n0_ n1_ n2_ n3_ n4_ n5_ n6_ n7_ n8_ n9_ n10_ n11_ n12_ n13_ n14_ n15_
    (try clear hb)
    (try clear hb2)
    (try clear hk)
    (try clear hi)
    refine hK.out _ _ ⟨(blk_cell BK281.out 0).trans rfl, (blk_cell BK281.out 1).trans rfl, (blk_cell BK254.out 0).trans rfl, (blk_cell BK254.out 1).trans rfl⟩ (fun hHeld => ?_)
    clear hK K
    refine norm_ (a' := ?_) ?_ ?_
    rotate_left
    ·show Act.put _ (some 36) _ = _
     simp only [Act.put, List.setIfInBounds_toArray, List.set_cons_zero, List.set_cons_succ, i64_w, i32_w]
     rfl
    refine pure_ (i := 4) (N := some 37) (v := ?_) (a' := ?_) #[true, true, true, true, true] rfl rfl (by kernel_rfl) (fun _ _ _ h => h) (Or.inl ⟨by rfl, ?_⟩) ?_ ?_
    rotate_left
    ·intro w'
     go_simp
     with_reducible rfl
    rotate_left
    ·simp only [Act.put, List.setIfInBounds_toArray, List.set_cons_zero, List.set_cons_succ, i64_w, i32_w]
     rfl
    refine done_ (by kernel_rfl) ?_
    have hcz73_0 : w72.cell? ⟨gb281, 0, none⟩ = some (.slice Ao44 t275.length co44) := (blk_cell BK281.out 0).trans rfl
    have hcz73_1 : w72.cell? ⟨gb281, 1, none⟩ = some (.slice Ao49 t278.length co49) := (blk_cell BK281.out 1).trans rfl
    have hfz73_0 := blk_frozen BK281.out 0
    have hfz73_1 := blk_frozen BK281.out 1
    go_upto_region 14 with (first | ((with_reducible refine gate_callee (f := 33) rfl ?_); refine goesL_ (some 40) rfl rfl Try.func33 (by kernel_rfl) rfl #[.agg #[.slice Ao44 t275.length co44, .slice Ao49 t278.length co49], .int .i64 1] rfl (by (try simp only [List.map_toArray, List.map_cons, List.map_nil]); first | done | rfl | (simp only [List.length_drop, List.length_take]; rfl)) ?_; (with_reducible refine (laws_markPath.calls k (fun k_ => some k_ = (.slice Ao44 t275.length co44 : Value).ownBlock) (.slice Ao44 t275.length co44) t275 (fun k_ => some k_ = (.slice Ao49 t278.length co49 : Value).ownBlock) (.slice Ao49 t278.length co49) t278 1 t303 t304 t305 w _ ?side1 ?side2 ?side3 A21.out).mono ?_); (case side1 => repeat (first | (with_reducible first | exact HB.out | apply below_alloc | apply pw_below_drewN | apply below_drew1 | refine below_set ?_ GE253.out | refine below_set ?_ GE254.out | refine below_set ?_ GE274.out | refine below_set ?_ GE281.out | refine below_set ?_ GE294.out) | exact HB.out)); (case side2 => exact Kd.R_tight rfl HO277.out); (case side3 => exact Kd.R_tight rfl HO280.out); rintro e w74 ⟨rfl, hy0, hy1, hb, hkp⟩; refine ⟨_, rfl, ?_⟩; have n0_ := Aside0.mk (blk_kept (by exact BK253.out) hkp (fun hs_ => Or.elim hs_ (fun e_ => (fun e_ => (Kd.R_ne HO277.out BK253.out (by decide)) e_) e_) (fun e_ => (fun e_ => (Kd.R_ne HO280.out BK253.out (by decide)) e_) e_))); have n1_ := Aside0.mk (blk_kept (by exact BK254.out) hkp (fun hs_ => Or.elim hs_ (fun e_ => (fun e_ => (Kd.R_ne HO277.out BK254.out (by decide)) e_) e_) (fun e_ => (fun e_ => (Kd.R_ne HO280.out BK254.out (by decide)) e_) e_))); have n2_ := Aside0.mk (Kd.R_mono (ok' := fun k_ => some k_ ≠ (.slice Ao36 t268.length co36 : Value).ownBlock ∧ some k_ ≠ (.slice Ao44 t275.length co44 : Value).ownBlock ∧ some k_ ≠ (.slice Ao56 t288.length co56 : Value).ownBlock ∧ some k_ ≠ (.slice Ao70 t296.length co70 : Value).ownBlock) (Kd.R_keptB ((Kd.R_apart' HO264.out (Kd.R_typed HO280.out) (by decide))) hkp (fun k_ hk_ hs_ => Or.elim hs_ (fun e_ => (hk_.1.1.2.1) e_) (fun e_ => (hk_.2) e_))) (fun k_ hk_ => ⟨hk_.1.1.1.1, hk_.1.1.1.2.1, hk_.1.1.1.2.2, hk_.1.1.2⟩)); have n3_ := Aside0.mk (Kd.R_mono (ok' := fun k_ => some k_ ≠ (.slice Ao38 t271.length co38 : Value).ownBlock ∧ some k_ ≠ (.slice Ao49 t278.length co49 : Value).ownBlock ∧ some k_ ≠ (.slice Ao58 t291.length co58 : Value).ownBlock ∧ some k_ ≠ (.slice Ao71 t299.length co71 : Value).ownBlock) (Kd.R_keptB ((Kd.R_apart' HO267.out (Kd.R_typed HO277.out) (by decide))) hkp (fun k_ hk_ hs_ => Or.elim hs_ (fun e_ => (hk_.2) e_) (fun e_ => (hk_.1.1.2.1) e_))) (fun k_ hk_ => ⟨hk_.1.1.1.1, hk_.1.1.1.2.1, hk_.1.1.1.2.2, hk_.1.1.2⟩)); have n4_ := Aside0.mk (Kd.R_mono (ok' := fun k_ => some k_ ≠ (v263 : Value).ownBlock ∧ some k_ ≠ (.slice Ao44 t275.length co44 : Value).ownBlock ∧ some k_ ≠ (.slice Ao56 t288.length co56 : Value).ownBlock ∧ some k_ ≠ (.slice Ao70 t296.length co70 : Value).ownBlock) (Kd.R_keptB ((Kd.R_apart' HO270.out (Kd.R_typed HO280.out) (by decide))) hkp (fun k_ hk_ hs_ => Or.elim hs_ (fun e_ => (hk_.1.1.2.1) e_) (fun e_ => (hk_.2) e_))) (fun k_ hk_ => ⟨hk_.1.1.1.1, hk_.1.1.1.2.1, hk_.1.1.1.2.2, hk_.1.1.2⟩)); have n5_ := Aside0.mk (Kd.R_mono (ok' := fun k_ => some k_ ≠ (v266 : Value).ownBlock ∧ some k_ ≠ (.slice Ao49 t278.length co49 : Value).ownBlock ∧ some k_ ≠ (.slice Ao58 t291.length co58 : Value).ownBlock ∧ some k_ ≠ (.slice Ao71 t299.length co71 : Value).ownBlock) (Kd.R_keptB ((Kd.R_apart' HO273.out (Kd.R_typed HO277.out) (by decide))) hkp (fun k_ hk_ hs_ => Or.elim hs_ (fun e_ => (hk_.2) e_) (fun e_ => (hk_.1.1.2.1) e_))) (fun k_ hk_ => ⟨hk_.1.1.1.1, hk_.1.1.1.2.1, hk_.1.1.1.2.2, hk_.1.1.2⟩)); have n6_ := Aside0.mk (blk_kept (by exact BK274.out) hkp (fun hs_ => Or.elim hs_ (fun e_ => (fun e_ => (Kd.R_ne HO277.out BK274.out (by decide)) e_) e_) (fun e_ => (fun e_ => (Kd.R_ne HO280.out BK274.out (by decide)) e_) e_))); have n7_ := Aside0.mk (Kd.R_reok rfl hy0 (fun k_ e_ => HO277.out.1 k_ e_)); have n8_ := Aside0.mk (Kd.R_reok rfl hy1 (fun k_ e_ => HO280.out.1 k_ e_)); have n9_ := Aside0.mk (blk_kept (by exact BK281.out) hkp (fun hs_ => Or.elim hs_ (fun e_ => (fun e_ => (Kd.R_ne HO277.out BK281.out (by decide)) e_) e_) (fun e_ => (fun e_ => (Kd.R_ne HO280.out BK281.out (by decide)) e_) e_))); have n10_ := Aside0.mk (Kd.R_mono (ok' := fun k_ => some k_ ≠ (v263 : Value).ownBlock ∧ some k_ ≠ (.slice Ao36 t268.length co36 : Value).ownBlock ∧ some k_ ≠ (.slice Ao44 t275.length co44 : Value).ownBlock ∧ some k_ ≠ (.slice Ao70 t296.length co70 : Value).ownBlock) (Kd.R_keptB ((Kd.R_apart' HO290.out (Kd.R_typed HO280.out) (by decide))) hkp (fun k_ hk_ hs_ => Or.elim hs_ (fun e_ => (hk_.1.1.2.2) e_) (fun e_ => (hk_.2) e_))) (fun k_ hk_ => ⟨hk_.1.1.1.1, hk_.1.1.1.2.1, hk_.1.1.1.2.2, hk_.1.1.2⟩)); have n11_ := Aside0.mk (Kd.R_mono (ok' := fun k_ => some k_ ≠ (v266 : Value).ownBlock ∧ some k_ ≠ (.slice Ao38 t271.length co38 : Value).ownBlock ∧ some k_ ≠ (.slice Ao49 t278.length co49 : Value).ownBlock ∧ some k_ ≠ (.slice Ao71 t299.length co71 : Value).ownBlock) (Kd.R_keptB ((Kd.R_apart' HO293.out (Kd.R_typed HO277.out) (by decide))) hkp (fun k_ hk_ hs_ => Or.elim hs_ (fun e_ => (hk_.2) e_) (fun e_ => (hk_.1.1.2.2) e_))) (fun k_ hk_ => ⟨hk_.1.1.1.1, hk_.1.1.1.2.1, hk_.1.1.1.2.2, hk_.1.1.2⟩)); have n12_ := Aside0.mk (blk_kept (by exact BK294.out) hkp (fun hs_ => Or.elim hs_ (fun e_ => (fun e_ => (Kd.R_ne HO277.out BK294.out (by decide)) e_) e_) (fun e_ => (fun e_ => (Kd.R_ne HO280.out BK294.out (by decide)) e_) e_))); have n13_ := Aside0.mk (Kd.R_mono (ok' := fun k_ => some k_ ≠ (v263 : Value).ownBlock ∧ some k_ ≠ (.slice Ao36 t268.length co36 : Value).ownBlock ∧ some k_ ≠ (.slice Ao44 t275.length co44 : Value).ownBlock ∧ some k_ ≠ (.slice Ao56 t288.length co56 : Value).ownBlock) (Kd.R_keptB ((Kd.R_apart' HO298.out (Kd.R_typed HO280.out) (by decide))) hkp (fun k_ hk_ hs_ => Or.elim hs_ (fun e_ => (hk_.1.1.2) e_) (fun e_ => (hk_.2) e_))) (fun k_ hk_ => ⟨hk_.1.1.1.1.1.2, hk_.1.1.1.1.2, hk_.1.1.1.2, hk_.1.1.2⟩)); have n14_ := Aside0.mk (Kd.R_mono (ok' := fun k_ => some k_ ≠ (v266 : Value).ownBlock ∧ some k_ ≠ (.slice Ao38 t271.length co38 : Value).ownBlock ∧ some k_ ≠ (.slice Ao49 t278.length co49 : Value).ownBlock ∧ some k_ ≠ (.slice Ao58 t291.length co58 : Value).ownBlock) (Kd.R_keptB ((Kd.R_apart' HO301.out (Kd.R_typed HO277.out) (by decide))) hkp (fun k_ hk_ hs_ => Or.elim hs_ (fun e_ => (hk_.2) e_) (fun e_ => (hk_.1.1.2) e_))) (fun k_ hk_ => ⟨hk_.1.1.1.1.1.2, hk_.1.1.1.1.2, hk_.1.1.1.2, hk_.1.1.2⟩)); have n15_ := Aside0.mk (hb); clear BK253; clear BK254; clear HO264; clear HO267; clear HO270; clear HO273; clear BK274; clear HO277; clear HO280; clear BK281; clear HO290; clear HO293; clear BK294; clear HO298; clear HO301; clear HB; have BK253 := n0_; have BK254 := n1_; have HO264 := n2_; have HO267 := n3_; have HO270 := n4_; have HO273 := n5_; have BK274 := n6_; have HO277 := n7_; have HO280 := n8_; have BK281 := n9_; have HO290 := n10_; have HO293 := n11_; have BK294 := n12_; have HO298 := n13_; have HO301 := n14_; have HB := n15_; clear n0_ n1_ n2_ n3_ n4_ n5_ n6_ n7_ n8_ n9_ n10_ n11_ n12_ n13_ n14_ n15_; (try clear hb); (try clear hkp); (try clear hy0); (try clear hy1)))
    (try simp only [Act.put, List.setIfInBounds_toArray, List.set_cons_zero, List.set_cons_succ])
    go_cut [48] (fun v48 wc => ∃ (kq : Nat) (x48_21 : Bool), v48 = .bool x48_21 ∧ Aside0 (laws_FnExactMovePath.j0 kq x48_21 a0_0 a0_1 a0_2 a0_3 a0_4 a0_5 l1_0 l1_1 t268 t271 t288 t291 = some r) ∧ Aside0 (kq ≤ k) ∧ Aside0 (Kd.R (Kd.int .i64) 3 wc w.heap.size (fun k_ => some k_ ≠ ((.slice Ao44 t275.length co44) : Value).ownBlock ∧ some k_ ≠ ((.slice Ao56 t288.length co56) : Value).ownBlock) (.slice Ao36 t268.length co36) t268) ∧ Aside0 (Kd.R k24 24 wc w.heap.size (fun k_ => some k_ ≠ ((.slice Ao49 t278.length co49) : Value).ownBlock ∧ some k_ ≠ ((.slice Ao58 t291.length co58) : Value).ownBlock) (.slice Ao38 t271.length co38) t271) ∧ Aside0 (Kd.R (Kd.int .i64) 3 wc w.heap.size (fun k_ => some k_ ≠ ((.slice Ao36 t268.length co36) : Value).ownBlock ∧ some k_ ≠ ((.slice Ao56 t288.length co56) : Value).ownBlock) (.slice Ao44 t275.length co44) t304) ∧ Aside0 (Kd.R k24 24 wc w.heap.size (fun k_ => some k_ ≠ ((.slice Ao38 t271.length co38) : Value).ownBlock ∧ some k_ ≠ ((.slice Ao58 t291.length co58) : Value).ownBlock) (.slice Ao49 t278.length co49) t305) ∧ Aside0 (Kd.R (Kd.int .i64) 3 wc w.heap.size (fun k_ => some k_ ≠ ((.slice Ao36 t268.length co36) : Value).ownBlock ∧ some k_ ≠ ((.slice Ao44 t275.length co44) : Value).ownBlock) (.slice Ao56 t288.length co56) t288) ∧ Aside0 (Kd.R k24 24 wc w.heap.size (fun k_ => some k_ ≠ ((.slice Ao38 t271.length co38) : Value).ownBlock ∧ some k_ ≠ ((.slice Ao49 t278.length co49) : Value).ownBlock) (.slice Ao58 t291.length co58) t291) ∧ Aside0 (wc.heap[gb253]? = some (.cells #[.int .i64 a0_0, .int .i64 a0_1, .int .i64 a0_2, .int .i64 a0_3, .int .i64 a0_4, .int .i64 a0_5] 32 (0, 0))) ∧ Aside0 (wc.heap[gb254]? = some (.cells #[(.slice A1_0 l1_0.length c1_0), (.slice A1_1 l1_1.length c1_1)] 64 (0, 0))) ∧ Aside0 (wc.heap[gb274]? = some (.cells #[(.slice Ao36 t268.length co36), (.slice Ao38 t271.length co38)] 50 (0, 0))) ∧ Aside0 (wc.heap[gb281]? = some (.cells #[(.slice Ao44 t275.length co44), (.slice Ao49 t278.length co49)] 50 (0, 0))) ∧ Aside0 (wc.heap[gb294]? = some (.cells #[(.slice Ao56 t288.length co56), (.slice Ao58 t291.length co58)] 50 (0, 0))) ∧ Aside0 (Below w.heap.size w wc))
    case first =>
     have H := HC22.out
     clear HC22
     by_cases c75 : t303 < 0
     ·rw [if_pos c75] at H
      have c75b0 : decide (t303 < 0) = true := decide_eq_true c75
      clear c75
      (first | rw [c75b0] | (simp only [i64_w, i32_w]; rw [c75b0]) | skip)
      have H' := Aside0.mk H
      clear H
      go_wp2
      go_meet
      case rel => exact ⟨_, (true), (by first | rfl | (simp; done) | (simp [*]; done)), H', ⟨by first | omega | exact Nat.le_refl _⟩, ⟨by (with_reducible repeat (first | apply Kd.R_alloc | apply Kd.R_drewN | apply Kd.R_drew)); exact Kd.R_mono HO270.out (fun _ hk => ⟨hk.2.1, hk.2.2.1⟩)⟩, ⟨by (with_reducible repeat (first | apply Kd.R_alloc | apply Kd.R_drewN | apply Kd.R_drew)); exact Kd.R_mono HO273.out (fun _ hk => ⟨hk.2.1, hk.2.2.1⟩)⟩, ⟨by (with_reducible repeat (first | apply Kd.R_alloc | apply Kd.R_drewN | apply Kd.R_drew)); exact Kd.R_mono HO277.out (fun _ hk => ⟨hk.1.2.1, hk.1.2.2⟩)⟩, ⟨by (with_reducible repeat (first | apply Kd.R_alloc | apply Kd.R_drewN | apply Kd.R_drew)); exact Kd.R_mono HO280.out (fun _ hk => ⟨hk.1.2.1, hk.1.2.2⟩)⟩, ⟨by (with_reducible repeat (first | apply Kd.R_alloc | apply Kd.R_drewN | apply Kd.R_drew)); exact Kd.R_mono HO290.out (fun _ hk => ⟨hk.2.1, hk.2.2.1⟩)⟩, ⟨by (with_reducible repeat (first | apply Kd.R_alloc | apply Kd.R_drewN | apply Kd.R_drew)); exact Kd.R_mono HO293.out (fun _ hk => ⟨hk.2.1, hk.2.2.1⟩)⟩, ⟨by (with_reducible repeat (first | refine blk_drewN ?_ _ | refine blk_drew ?_ | refine blk_alloc ?_ _)); exact BK253.out⟩, ⟨by (with_reducible repeat (first | refine blk_drewN ?_ _ | refine blk_drew ?_ | refine blk_alloc ?_ _)); exact BK254.out⟩, ⟨by (with_reducible repeat (first | refine blk_drewN ?_ _ | refine blk_drew ?_ | refine blk_alloc ?_ _)); exact BK274.out⟩, ⟨by (with_reducible repeat (first | refine blk_drewN ?_ _ | refine blk_drew ?_ | refine blk_alloc ?_ _)); exact BK281.out⟩, ⟨by (with_reducible repeat (first | refine blk_drewN ?_ _ | refine blk_drew ?_ | refine blk_alloc ?_ _)); exact BK294.out⟩, ⟨by repeat (first | (with_reducible first | exact HB.out | apply below_alloc | apply pw_below_drewN | apply below_drew1 | refine below_set ?_ GE253.out | refine below_set ?_ GE254.out | refine below_set ?_ GE274.out | refine below_set ?_ GE281.out | refine below_set ?_ GE294.out) | exact HB.out)⟩⟩
     ·rw [if_neg c75] at H
      have c75b0 : decide (t303 < 0) = false := decide_eq_false c75
      clear c75
      (first | rw [c75b0] | (simp only [i64_w, i32_w]; rw [c75b0]) | skip)
      replace H := Option.bind_eq_some_iff.mp H
      obtain ⟨t306, A760, H⟩ := H
      replace H : (laws_FnExactMovePath.j0 k (!t306) a0_0 a0_1 a0_2 a0_3 a0_4 a0_5 l1_0 l1_1 t268 t271 t288 t291) = some r := H
      have A76 := Aside0.mk A760
      clear A760
      have H' := Aside0.mk H
      clear H
      have hnb77 := NB294_253.out
      have hnc77 := NB253_294.out
      have hnb78 := NB294_254.out
      have hnc78 := NB254_294.out
      have hnb79 := NB294_274.out
      have hnc79 := NB274_294.out
      have hnb80 := NB294_281.out
      have hnc80 := NB281_294.out
      have hcz81_0 : w74.cell? ⟨gb294, 0, none⟩ = some (.slice Ao56 t288.length co56) := (blk_cell BK294.out 0).trans rfl
      have hcz81_1 : w74.cell? ⟨gb294, 1, none⟩ = some (.slice Ao58 t291.length co58) := (blk_cell BK294.out 1).trans rfl
      have hfz81_0 := blk_frozen BK294.out 0
      have hfz81_1 := blk_frozen BK294.out 1
      have hnb82 := NB274_253.out
      have hnc82 := NB253_274.out
      have hnb83 := NB274_254.out
      have hnc83 := NB254_274.out
      have hnb84 := NB274_281.out
      have hnc84 := NB281_274.out
      have hcz85_0 : w74.cell? ⟨gb274, 0, none⟩ = some (.slice Ao36 t268.length co36) := (blk_cell BK274.out 0).trans rfl
      have hcz85_1 : w74.cell? ⟨gb274, 1, none⟩ = some (.slice Ao38 t271.length co38) := (blk_cell BK274.out 1).trans rfl
      have hfz85_0 := blk_frozen BK274.out 0
      have hfz85_1 := blk_frozen BK274.out 1
      go_wp2_with (first | (go_at_call 32; (with_reducible refine (laws_eqPath.calls k _ _ t288 _ _ t291 _ _ t268 _ _ t271 t306 _ ?side1 ?side2 ?side3 ?side4 ?side5 ?side6 ?side7 ?side8 A76.out).mono ?_); (case side1 => repeat (first | exact (Kd.R_reads' HO290.out).2.2 | (with_reducible refine Kd.C_alloc ?_ _) | (with_reducible refine Kd.C_drewN ?_ _) | (with_reducible refine Kd.C_drew ?_))); (case side2 => exact (Kd.R_reads' HO290.out).2.1); (case side3 => repeat (first | exact (Kd.R_reads' HO293.out).2.2 | (with_reducible refine Kd.C_alloc ?_ _) | (with_reducible refine Kd.C_drewN ?_ _) | (with_reducible refine Kd.C_drew ?_))); (case side4 => exact (Kd.R_reads' HO293.out).2.1); (case side5 => repeat (first | exact (Kd.R_reads' HO270.out).2.2 | (with_reducible refine Kd.C_alloc ?_ _) | (with_reducible refine Kd.C_drewN ?_ _) | (with_reducible refine Kd.C_drew ?_))); (case side6 => exact (Kd.R_reads' HO270.out).2.1); (case side7 => repeat (first | exact (Kd.R_reads' HO273.out).2.2 | (with_reducible refine Kd.C_alloc ?_ _) | (with_reducible refine Kd.C_drewN ?_ _) | (with_reducible refine Kd.C_drew ?_))); (case side8 => exact (Kd.R_reads' HO273.out).2.1); rintro e w86 ⟨rfl, hb⟩; have n0_ := Aside0.mk (Kd.R_below (by (with_reducible repeat (first | apply Kd.R_alloc | apply Kd.R_drewN | apply Kd.R_drew)); exact HO264.out) hb); have n1_ := Aside0.mk (Kd.R_below (by (with_reducible repeat (first | apply Kd.R_alloc | apply Kd.R_drewN | apply Kd.R_drew)); exact HO267.out) hb); have n2_ := Aside0.mk (Kd.R_below (by (with_reducible repeat (first | apply Kd.R_alloc | apply Kd.R_drewN | apply Kd.R_drew)); exact HO270.out) hb); have n3_ := Aside0.mk (Kd.R_below (by (with_reducible repeat (first | apply Kd.R_alloc | apply Kd.R_drewN | apply Kd.R_drew)); exact HO273.out) hb); have n4_ := Aside0.mk (Kd.R_below (by (with_reducible repeat (first | apply Kd.R_alloc | apply Kd.R_drewN | apply Kd.R_drew)); exact HO277.out) hb); have n5_ := Aside0.mk (Kd.R_below (by (with_reducible repeat (first | apply Kd.R_alloc | apply Kd.R_drewN | apply Kd.R_drew)); exact HO280.out) hb); have n6_ := Aside0.mk (Kd.R_below (by (with_reducible repeat (first | apply Kd.R_alloc | apply Kd.R_drewN | apply Kd.R_drew)); exact HO290.out) hb); have n7_ := Aside0.mk (Kd.R_below (by (with_reducible repeat (first | apply Kd.R_alloc | apply Kd.R_drewN | apply Kd.R_drew)); exact HO293.out) hb); have n8_ := Aside0.mk (Kd.R_below (by (with_reducible repeat (first | apply Kd.R_alloc | apply Kd.R_drewN | apply Kd.R_drew)); exact HO298.out) hb); have n9_ := Aside0.mk (Kd.R_below (by (with_reducible repeat (first | apply Kd.R_alloc | apply Kd.R_drewN | apply Kd.R_drew)); exact HO301.out) hb); have n10_ := Aside0.mk (blk_below (g := gb253) (o := .cells #[.int .i64 a0_0, .int .i64 a0_1, .int .i64 a0_2, .int .i64 a0_3, .int .i64 a0_4, .int .i64 a0_5] 32 (0, 0)) (by exact BK253.out) hb); have n11_ := Aside0.mk (blk_below (g := gb254) (o := .cells #[.slice A1_0 l1_0.length c1_0, .slice A1_1 l1_1.length c1_1] 64 (0, 0)) (by exact BK254.out) hb); have n12_ := Aside0.mk (blk_below (g := gb274) (o := .cells #[.slice Ao36 t268.length co36, .slice Ao38 t271.length co38] 50 (0, 0)) (by exact BK274.out) hb); have n13_ := Aside0.mk (blk_below (g := gb281) (o := .cells #[.slice Ao44 t275.length co44, .slice Ao49 t278.length co49] 50 (0, 0)) (by exact BK281.out) hb); have n14_ := Aside0.mk (blk_below (g := gb294) (o := .cells #[.slice Ao56 t288.length co56, .slice Ao58 t291.length co58] 50 (0, 0)) (by exact BK294.out) hb); have n15_ := Aside0.mk (below_step (by repeat (first | (with_reducible first | exact HB.out | apply below_alloc | apply pw_below_drewN | apply below_drew1 | refine below_set ?_ GE253.out | refine below_set ?_ GE254.out | refine below_set ?_ GE274.out | refine below_set ?_ GE281.out | refine below_set ?_ GE294.out) | exact HB.out)) hb); clear HO264; clear HO267; clear HO270; clear HO273; clear HO277; clear HO280; clear HO290; clear HO293; clear HO298; clear HO301; clear BK253; clear BK254; clear BK274; clear BK281; clear BK294; clear HB; have HO264 := n0_; have HO267 := n1_; have HO270 := n2_; have HO273 := n3_; have HO277 := n4_; have HO280 := n5_; have HO290 := n6_; have HO293 := n7_; have HO298 := n8_; have HO301 := n9_; have BK253 := n10_; have BK254 := n11_; have BK274 := n12_; have BK281 := n13_; have BK294 := n14_; have HB := n15_; clear n0_ n1_ n2_ n3_ n4_ n5_ n6_ n7_ n8_ n9_ n10_ n11_ n12_ n13_ n14_ n15_; (try clear hb); (try clear hb2); (try clear hk); (try clear hi)))
      go_meet
      case rel => exact ⟨_, (!t306), (by first | rfl | (simp; done) | (simp [*]; done)), H', ⟨by first | omega | exact Nat.le_refl _⟩, ⟨by (with_reducible repeat (first | apply Kd.R_alloc | apply Kd.R_drewN | apply Kd.R_drew)); exact Kd.R_mono HO270.out (fun _ hk => ⟨hk.2.1, hk.2.2.1⟩)⟩, ⟨by (with_reducible repeat (first | apply Kd.R_alloc | apply Kd.R_drewN | apply Kd.R_drew)); exact Kd.R_mono HO273.out (fun _ hk => ⟨hk.2.1, hk.2.2.1⟩)⟩, ⟨by (with_reducible repeat (first | apply Kd.R_alloc | apply Kd.R_drewN | apply Kd.R_drew)); exact Kd.R_mono HO277.out (fun _ hk => ⟨hk.1.2.1, hk.1.2.2⟩)⟩, ⟨by (with_reducible repeat (first | apply Kd.R_alloc | apply Kd.R_drewN | apply Kd.R_drew)); exact Kd.R_mono HO280.out (fun _ hk => ⟨hk.1.2.1, hk.1.2.2⟩)⟩, ⟨by (with_reducible repeat (first | apply Kd.R_alloc | apply Kd.R_drewN | apply Kd.R_drew)); exact Kd.R_mono HO290.out (fun _ hk => ⟨hk.2.1, hk.2.2.1⟩)⟩, ⟨by (with_reducible repeat (first | apply Kd.R_alloc | apply Kd.R_drewN | apply Kd.R_drew)); exact Kd.R_mono HO293.out (fun _ hk => ⟨hk.2.1, hk.2.2.1⟩)⟩, ⟨by (with_reducible repeat (first | refine blk_drewN ?_ _ | refine blk_drew ?_ | refine blk_alloc ?_ _)); exact BK253.out⟩, ⟨by (with_reducible repeat (first | refine blk_drewN ?_ _ | refine blk_drew ?_ | refine blk_alloc ?_ _)); exact BK254.out⟩, ⟨by (with_reducible repeat (first | refine blk_drewN ?_ _ | refine blk_drew ?_ | refine blk_alloc ?_ _)); exact BK274.out⟩, ⟨by (with_reducible repeat (first | refine blk_drewN ?_ _ | refine blk_drew ?_ | refine blk_alloc ?_ _)); exact BK281.out⟩, ⟨by (with_reducible repeat (first | refine blk_drewN ?_ _ | refine blk_drew ?_ | refine blk_alloc ?_ _)); exact BK294.out⟩, ⟨by repeat (first | (with_reducible first | exact HB.out | apply below_alloc | apply pw_below_drewN | apply below_drew1 | refine below_set ?_ GE253.out | refine below_set ?_ GE254.out | refine below_set ?_ GE274.out | refine below_set ?_ GE281.out | refine below_set ?_ GE294.out) | exact HB.out)⟩⟩
    case rest =>
     clear HC22
     try clear c1
     try clear c2
     try clear p2
     try clear c3
     try clear c4
     try clear c5
     try clear c6
     try clear c7
     try clear c8
     try clear c21
     try clear c32
     try clear c33
     try clear c44
     try clear c55
     try clear c60
     try clear c61
     try clear c62
     try clear c63
     try clear c65
     try clear c75
     try clear c75b0
     try clear c77
     try clear c78
     try clear c79
     try clear c80
     try clear c82
     try clear c83
     try clear c84
     try clear hcz64_0
     try clear hcz64_1
     try clear hcz66_0
     try clear hcz66_1
     try clear hcz73_0
     try clear hcz73_1
     try clear hcz81_0
     try clear hcz81_1
     try clear hcz85_0
     try clear hcz85_1
     try clear hfz64_0
     try clear hfz64_1
     try clear hfz66_0
     try clear hfz66_1
     try clear hfz73_0
     try clear hfz73_1
     try clear hfz81_0
     try clear hfz81_1
     try clear hfz85_0
     try clear hfz85_1
     obtain ⟨kq, x48_21, rfl, HA, HJ21, HO_275000, HO_275001, HO_282000, HO_282001, HO_295000, HO_295001, BK253, BK254, BK274, BK281, BK294, HB⟩ := hcut
     have hl282000_21 := (Kd.R_reads' HO_282000.out).1
     rw [hl282000_21] at HO_282000
     (try simp only [hl282000_21])
     (try simp only [hl282000_21] at BK253)
     (try simp only [hl282000_21] at BK254)
     (try simp only [hl282000_21] at BK274)
     (try simp only [hl282000_21] at BK281)
     (try simp only [hl282000_21] at BK294)
     (try simp only [hl282000_21] at HO_275000)
     (try simp only [hl282000_21] at HO_275001)
     (try simp only [hl282000_21] at HO_282001)
     (try simp only [hl282000_21] at HO_295000)
     (try simp only [hl282000_21] at HO_295001)
     have hl282001_21 := (Kd.R_reads' HO_282001.out).1
     rw [hl282001_21] at HO_282001
     (try simp only [hl282001_21])
     (try simp only [hl282001_21] at BK253)
     (try simp only [hl282001_21] at BK254)
     (try simp only [hl282001_21] at BK274)
     (try simp only [hl282001_21] at BK281)
     (try simp only [hl282001_21] at BK294)
     (try simp only [hl282001_21] at HO_275000)
     (try simp only [hl282001_21] at HO_275001)
     (try simp only [hl282001_21] at HO_282000)
     (try simp only [hl282001_21] at HO_295000)
     (try simp only [hl282001_21] at HO_295001)
     cases kq with
     | zero => exact absurd HA.out (by simp [laws_FnExactMovePath.j0])
     | succ kj21 =>
      have H := HA.out
      clear HA
      simp only [laws_FnExactMovePath.j0] at H
      by_cases c87 : x48_21 = true
      ·subst c87
       have H1 : (some false) = some r := by rw [if_pos rfl] at H; exact H
       clear H
       have H := H1
       clear H1
       obtain rfl := Option.some.inj H
       exact absurd hr_ (by decide)
      ·replace c87 := Bool.eq_false_iff.mpr c87
       subst c87
       have H1 : ((laws_markPath.f kj21 t288 t291 1).bind fun bt307 => ((laws_heldPath.f kj21 bt307.2.1 bt307.2.2 1).bind fun t310 => (if t310 < 0 then (some false) else (if t310 = bt307.1 then ((laws_toMat.f a0_0 a0_1 a0_2 a0_3 a0_4 a0_5).bind fun bt311 => ((laws_toPath.f kj21 l1_0 l1_1).bind fun bt317 => ((impl_MovePath.f kj21 bt311.1 bt311.2.1 bt311.2.2.1 bt311.2.2.2.1 bt311.2.2.2.2.1 bt311.2.2.2.2.2 bt317.1 bt317.2).bind fun bt323 => ((laws_eqPath.f kj21 bt323.1 bt323.2 t268 t271).bind fun t330 => (if t330 = true then ((laws_heldPath.f kj21 bt307.2.1 bt307.2.2 1).bind fun t331 => (if t331 < 0 then (some false) else (if t331 = bt307.1 then (some true) else (some false)))) else (some false)))))) else (some false))))) = some r := by rw [if_neg (show ¬ (false = true) by decide)] at H; exact H
       clear H
       have H := H1
       clear H1
       replace H := Option.bind_eq_some_iff.mp H
       obtain ⟨⟨t307, t308, t309⟩, A880, H⟩ := H
       replace H : ((laws_heldPath.f kj21 t308 t309 1).bind fun t310 => (if t310 < 0 then (some false) else (if t310 = t307 then ((laws_toMat.f a0_0 a0_1 a0_2 a0_3 a0_4 a0_5).bind fun bt311 => ((laws_toPath.f kj21 l1_0 l1_1).bind fun bt317 => ((impl_MovePath.f kj21 bt311.1 bt311.2.1 bt311.2.2.1 bt311.2.2.2.1 bt311.2.2.2.2.1 bt311.2.2.2.2.2 bt317.1 bt317.2).bind fun bt323 => ((laws_eqPath.f kj21 bt323.1 bt323.2 t268 t271).bind fun t330 => (if t330 = true then ((laws_heldPath.f kj21 t308 t309 1).bind fun t331 => (if t331 < 0 then (some false) else (if t331 = t307 then (some true) else (some false)))) else (some false)))))) else (some false)))) = some r := H
       have A88 := Aside0.mk A880
       clear A880
       replace H := Option.bind_eq_some_iff.mp H
       obtain ⟨t310, A890, H⟩ := H
       replace H : (if t310 < 0 then (some false) else (if t310 = t307 then ((laws_toMat.f a0_0 a0_1 a0_2 a0_3 a0_4 a0_5).bind fun bt311 => ((laws_toPath.f kj21 l1_0 l1_1).bind fun bt317 => ((impl_MovePath.f kj21 bt311.1 bt311.2.1 bt311.2.2.1 bt311.2.2.2.1 bt311.2.2.2.2.1 bt311.2.2.2.2.2 bt317.1 bt317.2).bind fun bt323 => ((laws_eqPath.f kj21 bt323.1 bt323.2 t268 t271).bind fun t330 => (if t330 = true then ((laws_heldPath.f kj21 t308 t309 1).bind fun t331 => (if t331 < 0 then (some false) else (if t331 = t307 then (some true) else (some false)))) else (some false)))))) else (some false))) = some r := H
       have A89 := Aside0.mk A890
       clear A890
       by_cases c90 : t310 < 0
       ·rw [if_pos c90] at H
        have c90b0 : decide (t310 < 0) = true := decide_eq_true c90
        clear c90
        obtain rfl := Option.some.inj H
        exact absurd hr_ (by decide)
       ·rw [if_neg c90] at H
        have c90b0 : decide (t310 < 0) = false := decide_eq_false c90
        clear c90
        by_cases c99 : t310 = t307
        ·rw [if_pos c99] at H
         have c99b0 : (t310 == t307) = true := beq_iff_eq.mpr c99
         have c99b1 : (t310 != t307) = false := bne_eq_false_iff_eq.mpr c99
         clear c99
         replace H := Option.bind_eq_some_iff.mp H
         obtain ⟨⟨t311, t312, t313, t314, t315, t316⟩, A1000, H⟩ := H
         replace H : ((laws_toPath.f kj21 l1_0 l1_1).bind fun bt317 => ((impl_MovePath.f kj21 t311 t312 t313 t314 t315 t316 bt317.1 bt317.2).bind fun bt323 => ((laws_eqPath.f kj21 bt323.1 bt323.2 t268 t271).bind fun t330 => (if t330 = true then ((laws_heldPath.f kj21 t308 t309 1).bind fun t331 => (if t331 < 0 then (some false) else (if t331 = t307 then (some true) else (some false)))) else (some false))))) = some r := H
         have A100 := Aside0.mk A1000
         clear A1000
         replace H := Option.bind_eq_some_iff.mp H
         obtain ⟨⟨t317, t320⟩, A1010, H⟩ := H
         replace H : ((impl_MovePath.f kj21 t311 t312 t313 t314 t315 t316 t317 t320).bind fun bt323 => ((laws_eqPath.f kj21 bt323.1 bt323.2 t268 t271).bind fun t330 => (if t330 = true then ((laws_heldPath.f kj21 t308 t309 1).bind fun t331 => (if t331 < 0 then (some false) else (if t331 = t307 then (some true) else (some false)))) else (some false)))) = some r := H
         have A101 := Aside0.mk A1010
         clear A1010
         replace H := Option.bind_eq_some_iff.mp H
         obtain ⟨⟨t323, t326⟩, A1020, H⟩ := H
         replace H : ((laws_eqPath.f kj21 t323 t326 t268 t271).bind fun t330 => (if t330 = true then ((laws_heldPath.f kj21 t308 t309 1).bind fun t331 => (if t331 < 0 then (some false) else (if t331 = t307 then (some true) else (some false)))) else (some false))) = some r := H
         have A102 := Aside0.mk A1020
         clear A1020
         replace H := Option.bind_eq_some_iff.mp H
         obtain ⟨t330, A1030, H⟩ := H
         replace H : (if t330 = true then ((laws_heldPath.f kj21 t308 t309 1).bind fun t331 => (if t331 < 0 then (some false) else (if t331 = t307 then (some true) else (some false)))) else (some false)) = some r := H
         have A103 := Aside0.mk A1030
         clear A1030
         by_cases c104 : t330 = true
         ·subst c104
          have H1 : ((laws_heldPath.f kj21 t308 t309 1).bind fun t331 => (if t331 < 0 then (some false) else (if t331 = t307 then (some true) else (some false)))) = some r := by rw [if_pos rfl] at H; exact H
          clear H
          have H := H1
          clear H1
          replace H := Option.bind_eq_some_iff.mp H
          obtain ⟨t331, A1050, H⟩ := H
          replace H : (if t331 < 0 then (some false) else (if t331 = t307 then (some true) else (some false))) = some r := H
          have A105 := Aside0.mk A1050
          clear A1050
          by_cases c106 : t331 < 0
          ·rw [if_pos c106] at H
           have c106b0 : decide (t331 < 0) = true := decide_eq_true c106
           clear c106
           obtain rfl := Option.some.inj H
           exact absurd hr_ (by decide)
          ·rw [if_neg c106] at H
           have c106b0 : decide (t331 < 0) = false := decide_eq_false c106
           clear c106
           by_cases c140 : t331 = t307
           ·rw [if_pos c140] at H
            have c140b0 : (t331 == t307) = true := beq_iff_eq.mpr c140
            have c140b1 : (t331 != t307) = false := bne_eq_false_iff_eq.mpr c140
            clear c140
            obtain rfl := Option.some.inj H
            have hnb141 := NB294_253.out
            have hnc141 := NB253_294.out
            have hnb142 := NB294_254.out
            have hnc142 := NB254_294.out
            have hnb143 := NB294_274.out
            have hnc143 := NB274_294.out
            have hnb144 := NB294_281.out
            have hnc144 := NB281_294.out
            have hcz145_0 : wc.cell? ⟨gb294, 0, none⟩ = some (.slice Ao56 t288.length co56) := (blk_cell BK294.out 0).trans rfl
            have hcz145_1 : wc.cell? ⟨gb294, 1, none⟩ = some (.slice Ao58 t291.length co58) := (blk_cell BK294.out 1).trans rfl
            have hfz145_0 := blk_frozen BK294.out 0
            have hfz145_1 := blk_frozen BK294.out 1
            try go_wp2_with (first | ((with_reducible refine gate_callee (f := 33) rfl ?_); refine goesL_ (some 51) rfl rfl Try.func33 (by kernel_rfl) rfl #[.agg #[.slice Ao56 t288.length co56, .slice Ao58 t291.length co58], .int .i64 1] rfl (by (try simp only [List.map_toArray, List.map_cons, List.map_nil]); first | done | rfl | (simp only [List.length_drop, List.length_take]; rfl)) ?_; (with_reducible refine (laws_markPath.calls kj21 (fun k_ => some k_ = (.slice Ao56 t288.length co56 : Value).ownBlock) (.slice Ao56 t288.length co56) t288 (fun k_ => some k_ = (.slice Ao58 t291.length co58 : Value).ownBlock) (.slice Ao58 t291.length co58) t291 1 t307 t308 t309 w _ ?side1 ?side2 ?side3 A88.out).mono ?_); (case side1 => repeat (first | (with_reducible first | exact HB.out | apply below_alloc | apply pw_below_drewN | apply below_drew1 | refine below_set ?_ GE253.out | refine below_set ?_ GE254.out | refine below_set ?_ GE274.out | refine below_set ?_ GE281.out | refine below_set ?_ GE294.out) | exact HB.out)); (case side2 => exact Kd.R_tight rfl HO_295000.out); (case side3 => exact Kd.R_tight rfl HO_295001.out); rintro e w146 ⟨rfl, hy0, hy1, hb, hkp⟩; refine ⟨_, rfl, ?_⟩; have n0_ := Aside0.mk (Kd.R_mono (ok' := fun k_ => some k_ ≠ (.slice Ao44 t304.length co44 : Value).ownBlock ∧ some k_ ≠ (.slice Ao56 t288.length co56 : Value).ownBlock) (Kd.R_keptB ((Kd.R_apart' HO_275000.out (Kd.R_typed HO_295001.out) (by decide))) hkp (fun k_ hk_ hs_ => Or.elim hs_ (fun e_ => (hk_.1.2) e_) (fun e_ => (hk_.2) e_))) (fun k_ hk_ => ⟨hk_.1.1.1, hk_.1.1.2⟩)); have n1_ := Aside0.mk (Kd.R_mono (ok' := fun k_ => some k_ ≠ (.slice Ao49 t305.length co49 : Value).ownBlock ∧ some k_ ≠ (.slice Ao58 t291.length co58 : Value).ownBlock) (Kd.R_keptB ((Kd.R_apart' HO_275001.out (Kd.R_typed HO_295000.out) (by decide))) hkp (fun k_ hk_ hs_ => Or.elim hs_ (fun e_ => (hk_.2) e_) (fun e_ => (hk_.1.2) e_))) (fun k_ hk_ => ⟨hk_.1.1.1, hk_.1.1.2⟩)); have n2_ := Aside0.mk (Kd.R_mono (ok' := fun k_ => some k_ ≠ (.slice Ao36 t268.length co36 : Value).ownBlock ∧ some k_ ≠ (.slice Ao56 t288.length co56 : Value).ownBlock) (Kd.R_keptB ((Kd.R_apart' HO_282000.out (Kd.R_typed HO_295001.out) (by decide))) hkp (fun k_ hk_ hs_ => Or.elim hs_ (fun e_ => (hk_.1.2) e_) (fun e_ => (hk_.2) e_))) (fun k_ hk_ => ⟨hk_.1.1.1, hk_.1.1.2⟩)); have n3_ := Aside0.mk (Kd.R_mono (ok' := fun k_ => some k_ ≠ (.slice Ao38 t271.length co38 : Value).ownBlock ∧ some k_ ≠ (.slice Ao58 t291.length co58 : Value).ownBlock) (Kd.R_keptB ((Kd.R_apart' HO_282001.out (Kd.R_typed HO_295000.out) (by decide))) hkp (fun k_ hk_ hs_ => Or.elim hs_ (fun e_ => (hk_.2) e_) (fun e_ => (hk_.1.2) e_))) (fun k_ hk_ => ⟨hk_.1.1.1, hk_.1.1.2⟩)); have n4_ := Aside0.mk (Kd.R_reok rfl hy0 (fun k_ e_ => HO_295000.out.1 k_ e_)); have n5_ := Aside0.mk (Kd.R_reok rfl hy1 (fun k_ e_ => HO_295001.out.1 k_ e_)); have n6_ := Aside0.mk (blk_kept (by exact BK253.out) hkp (fun hs_ => Or.elim hs_ (fun e_ => (fun e_ => (Kd.R_ne HO_295000.out BK253.out (by decide)) e_) e_) (fun e_ => (fun e_ => (Kd.R_ne HO_295001.out BK253.out (by decide)) e_) e_))); have n7_ := Aside0.mk (blk_kept (by exact BK254.out) hkp (fun hs_ => Or.elim hs_ (fun e_ => (fun e_ => (Kd.R_ne HO_295000.out BK254.out (by decide)) e_) e_) (fun e_ => (fun e_ => (Kd.R_ne HO_295001.out BK254.out (by decide)) e_) e_))); have n8_ := Aside0.mk (blk_kept (by exact BK274.out) hkp (fun hs_ => Or.elim hs_ (fun e_ => (fun e_ => (Kd.R_ne HO_295000.out BK274.out (by decide)) e_) e_) (fun e_ => (fun e_ => (Kd.R_ne HO_295001.out BK274.out (by decide)) e_) e_))); have n9_ := Aside0.mk (blk_kept (by exact BK281.out) hkp (fun hs_ => Or.elim hs_ (fun e_ => (fun e_ => (Kd.R_ne HO_295000.out BK281.out (by decide)) e_) e_) (fun e_ => (fun e_ => (Kd.R_ne HO_295001.out BK281.out (by decide)) e_) e_))); have n10_ := Aside0.mk (blk_kept (by exact BK294.out) hkp (fun hs_ => Or.elim hs_ (fun e_ => (fun e_ => (Kd.R_ne HO_295000.out BK294.out (by decide)) e_) e_) (fun e_ => (fun e_ => (Kd.R_ne HO_295001.out BK294.out (by decide)) e_) e_))); have n11_ := Aside0.mk (hb); clear HO_275000; clear HO_275001; clear HO_282000; clear HO_282001; clear HO_295000; clear HO_295001; clear BK253; clear BK254; clear BK274; clear BK281; clear BK294; clear HB; have HO_275000 := n0_; have HO_275001 := n1_; have HO_282000 := n2_; have HO_282001 := n3_; have HO_295000 := n4_; have HO_295001 := n5_; have BK253 := n6_; have BK254 := n7_; have BK274 := n8_; have BK281 := n9_; have BK294 := n10_; have HB := n11_; clear n0_ n1_ n2_ n3_ n4_ n5_ n6_ n7_ n8_ n9_ n10_ n11_; (try clear hb); (try clear hkp); (try clear hy0); (try clear hy1); have hcz147_0 : w146.cell? ⟨gb294, 0, none⟩ = some (.slice Ao56 t288.length co56) := (blk_cell BK294.out 0).trans rfl; have hcz147_1 : w146.cell? ⟨gb294, 1, none⟩ = some (.slice Ao58 t291.length co58) := (blk_cell BK294.out 1).trans rfl; have hfz147_0 := blk_frozen BK294.out 0; have hfz147_1 := blk_frozen BK294.out 1) | ((with_reducible refine gate_callee (f := 34) rfl ?_); refine goesL_ (some 54) rfl rfl Try.func34 (by kernel_rfl) rfl #[.agg #[.slice Ao56 t308.length co56, .slice Ao58 t309.length co58], .int .i64 1] rfl (by (try simp only [List.map_toArray, List.map_cons, List.map_nil]); first | done | (rw [show t308.length = t288.length from (Kd.R_reads' HO_295000.out).1.symm, show t309.length = t291.length from (Kd.R_reads' HO_295001.out).1.symm] <;> rfl) | rfl | (simp only [List.length_drop, List.length_take]; rfl)) ?_; (with_reducible refine (laws_heldPath.calls kj21 _ _ t308 _ _ t309 1 t310 _ ?side1 ?side2 ?side3 ?side4 A89.out).mono ?_); (case side1 => repeat (first | exact (Kd.R_reads' HO_295000.out).2.2 | (with_reducible refine Kd.C_alloc ?_ _) | (with_reducible refine Kd.C_drewN ?_ _) | (with_reducible refine Kd.C_drew ?_))); (case side2 => rw [show t308.length = t288.length from (Kd.R_reads' HO_295000.out).1.symm]; exact (Kd.R_reads' HO_295000.out).2.1); (case side3 => repeat (first | exact (Kd.R_reads' HO_295001.out).2.2 | (with_reducible refine Kd.C_alloc ?_ _) | (with_reducible refine Kd.C_drewN ?_ _) | (with_reducible refine Kd.C_drew ?_))); (case side4 => rw [show t309.length = t291.length from (Kd.R_reads' HO_295001.out).1.symm]; exact (Kd.R_reads' HO_295001.out).2.1); rintro e w148 ⟨rfl, hb⟩; refine ⟨_, rfl, ?_⟩; have n0_ := Aside0.mk (Kd.R_below (by (with_reducible repeat (first | apply Kd.R_alloc | apply Kd.R_drewN | apply Kd.R_drew)); exact HO_275000.out) hb); have n1_ := Aside0.mk (Kd.R_below (by (with_reducible repeat (first | apply Kd.R_alloc | apply Kd.R_drewN | apply Kd.R_drew)); exact HO_275001.out) hb); have n2_ := Aside0.mk (Kd.R_below (by (with_reducible repeat (first | apply Kd.R_alloc | apply Kd.R_drewN | apply Kd.R_drew)); exact HO_282000.out) hb); have n3_ := Aside0.mk (Kd.R_below (by (with_reducible repeat (first | apply Kd.R_alloc | apply Kd.R_drewN | apply Kd.R_drew)); exact HO_282001.out) hb); have n4_ := Aside0.mk (Kd.R_below (by (with_reducible repeat (first | apply Kd.R_alloc | apply Kd.R_drewN | apply Kd.R_drew)); exact HO_295000.out) hb); have n5_ := Aside0.mk (Kd.R_below (by (with_reducible repeat (first | apply Kd.R_alloc | apply Kd.R_drewN | apply Kd.R_drew)); exact HO_295001.out) hb); have n6_ := Aside0.mk (blk_below (g := gb253) (o := .cells #[.int .i64 a0_0, .int .i64 a0_1, .int .i64 a0_2, .int .i64 a0_3, .int .i64 a0_4, .int .i64 a0_5] 32 (0, 0)) (by exact BK253.out) hb); have n7_ := Aside0.mk (blk_below (g := gb254) (o := .cells #[.slice A1_0 l1_0.length c1_0, .slice A1_1 l1_1.length c1_1] 64 (0, 0)) (by exact BK254.out) hb); have n8_ := Aside0.mk (blk_below (g := gb274) (o := .cells #[.slice Ao36 t268.length co36, .slice Ao38 t271.length co38] 50 (0, 0)) (by exact BK274.out) hb); have n9_ := Aside0.mk (blk_below (g := gb281) (o := .cells #[.slice Ao44 t304.length co44, .slice Ao49 t305.length co49] 50 (0, 0)) (by exact BK281.out) hb); have n10_ := Aside0.mk (blk_below (g := gb294) (o := .cells #[.slice Ao56 t288.length co56, .slice Ao58 t291.length co58] 50 (0, 0)) (by exact BK294.out) hb); have n11_ := Aside0.mk (below_step (by repeat (first | (with_reducible first | exact HB.out | apply below_alloc | apply pw_below_drewN | apply below_drew1 | refine below_set ?_ GE253.out | refine below_set ?_ GE254.out | refine below_set ?_ GE274.out | refine below_set ?_ GE281.out | refine below_set ?_ GE294.out) | exact HB.out)) hb); clear HO_275000; clear HO_275001; clear HO_282000; clear HO_282001; clear HO_295000; clear HO_295001; clear BK253; clear BK254; clear BK274; clear BK281; clear BK294; clear HB; have HO_275000 := n0_; have HO_275001 := n1_; have HO_282000 := n2_; have HO_282001 := n3_; have HO_295000 := n4_; have HO_295001 := n5_; have BK253 := n6_; have BK254 := n7_; have BK274 := n8_; have BK281 := n9_; have BK294 := n10_; have HB := n11_; clear n0_ n1_ n2_ n3_ n4_ n5_ n6_ n7_ n8_ n9_ n10_ n11_; (try clear hb); (try clear hb2); (try clear hk); (try clear hi)))
            have n0_ := Aside0.mk (Kd.R_drew HO_275000.out)
            have n1_ := Aside0.mk (Kd.R_drew HO_275001.out)
            have n2_ := Aside0.mk (Kd.R_drew HO_282000.out)
            have n3_ := Aside0.mk (Kd.R_drew HO_282001.out)
            have n4_ := Aside0.mk (Kd.R_drew HO_295000.out)
            have n5_ := Aside0.mk (Kd.R_drew HO_295001.out)
            have n6_ := Aside0.mk (blk_drew BK253.out)
            have n7_ := Aside0.mk (blk_drew BK254.out)
            have n8_ := Aside0.mk (blk_drew BK274.out)
            have n9_ := Aside0.mk (blk_drew BK281.out)
            have n10_ := Aside0.mk (blk_drew BK294.out)
            have n11_ := Aside0.mk (below_drew1 HB.out)
            clear HO_275000
            clear HO_275001
            clear HO_282000
            clear HO_282001
            clear HO_295000
            clear HO_295001
            clear BK253
            clear BK254
            clear BK274
            clear BK281
            clear BK294
            clear HB
            have HO_275000 := n0_
            have HO_275001 := n1_
            have HO_282000 := n2_
            have HO_282001 := n3_
            have HO_295000 := n4_
            have HO_295001 := n5_
            have BK253 := n6_
            have BK254 := n7_
            have BK274 := n8_
            have BK281 := n9_
            have BK294 := n10_
            have HB := n11_
            clear n0_ n1_ n2_ n3_ n4_ n5_ n6_ n7_ n8_ n9_ n10_ n11_
            refine start_ (n := 7) (S := fun w' => w'.cell? ⟨gb253, 0, none⟩ = some (.int .i64 a0_0) ∧ w'.cell? ⟨gb253, 1, none⟩ = some (.int .i64 a0_1) ∧ w'.cell? ⟨gb253, 2, none⟩ = some (.int .i64 a0_2) ∧ w'.cell? ⟨gb253, 3, none⟩ = some (.int .i64 a0_3) ∧ w'.cell? ⟨gb253, 4, none⟩ = some (.int .i64 a0_4) ∧ w'.cell? ⟨gb253, 5, none⟩ = some (.int .i64 a0_5) ∧ w'.cell? ⟨gb254, 0, none⟩ = some (.slice A1_0 l1_0.length c1_0) ∧ w'.cell? ⟨gb254, 1, none⟩ = some (.slice A1_1 l1_1.length c1_1)) (ds := []) #[false, false, false, false, false, false, false] (by kernel_rfl) rfl rfl ⟨(blk_cell BK253.out 0).trans rfl, (blk_cell BK253.out 1).trans rfl, (blk_cell BK253.out 2).trans rfl, (blk_cell BK253.out 3).trans rfl, (blk_cell BK253.out 4).trans rfl, (blk_cell BK253.out 5).trans rfl, (blk_cell BK254.out 0).trans rfl, (blk_cell BK254.out 1).trans rfl⟩ (fun hHeld => ?_)
            generalize w148.drew = w149 at HO_275000 HO_275001 HO_282000 HO_282001 HO_295000 HO_295001 BK253 BK254 BK274 BK281 BK294 HB hHeld ⊢
            refine take_ (i := 0) (N := some 60) (v := ?_) (a' := ?_) #[true, false, false, false, false, false, false] rfl rfl (by kernel_rfl) (fun _ _ _ h => h) (Or.inl ⟨by rfl, ?_⟩) hHeld ?_ ?_
            rotate_left
            ·rintro w' ⟨s0, s1, s2, s3, s4, s5, s6, s7⟩
             go_simp
             with_reducible rfl
            rotate_left
            ·simp only [Act.put, List.setIfInBounds_toArray, List.set_cons_zero, List.set_cons_succ, i64_w, i32_w]
             rfl
            refine take_ (i := 2) (N := some 62) (v := ?_) (a' := ?_) #[true, false, true, false, false, false, false] rfl rfl (by kernel_rfl) (fun _ _ _ h => h) (Or.inl ⟨by rfl, ?_⟩) hHeld ?_ ?_
            rotate_left
            ·rintro w' ⟨s0, s1, s2, s3, s4, s5, s6, s7⟩
             go_simp
             with_reducible rfl
            rotate_left
            ·simp only [Act.put, List.setIfInBounds_toArray, List.set_cons_zero, List.set_cons_succ, i64_w, i32_w]
             rfl
            refine join_ (σ := Value × Value × Value × Value × Nat) 1 #[true, true, true, true, true, true, false] (fun s_ => [(61, .agg #[.int .i64 t311, .int .i64 t312, .int .i64 t313, .int .i64 t314, .int .i64 t315, .int .i64 t316]), (63, .agg #[s_.1, s_.2.1]), (64, .agg #[s_.2.2.1, s_.2.2.2.1]), (12, .pointer (some ⟨s_.2.2.2.2, 0, none⟩))]) (fun s_ w' => (w'.cell? ⟨gb253, 0, none⟩ = some (.int .i64 a0_0) ∧ w'.cell? ⟨gb253, 1, none⟩ = some (.int .i64 a0_1) ∧ w'.cell? ⟨gb253, 2, none⟩ = some (.int .i64 a0_2) ∧ w'.cell? ⟨gb253, 3, none⟩ = some (.int .i64 a0_3) ∧ w'.cell? ⟨gb253, 4, none⟩ = some (.int .i64 a0_4) ∧ w'.cell? ⟨gb253, 5, none⟩ = some (.int .i64 a0_5) ∧ w'.cell? ⟨gb254, 0, none⟩ = some (.slice A1_0 l1_0.length c1_0) ∧ w'.cell? ⟨gb254, 1, none⟩ = some (.slice A1_1 l1_1.length c1_1)) ∧ (Kd.R (Kd.int .i64) 3 w' w.heap.size (fun k_ => some k_ ≠ (s_.2.2.1 : Value).ownBlock ∧ some k_ ≠ (.slice Ao36 t268.length co36 : Value).ownBlock ∧ some k_ ≠ (.slice Ao44 t304.length co44 : Value).ownBlock ∧ some k_ ≠ (.slice Ao56 t288.length co56 : Value).ownBlock) s_.1 t317) ∧ (Kd.R k24 24 w' w.heap.size (fun k_ => some k_ ≠ (s_.2.2.2.1 : Value).ownBlock ∧ some k_ ≠ (.slice Ao38 t271.length co38 : Value).ownBlock ∧ some k_ ≠ (.slice Ao49 t305.length co49 : Value).ownBlock ∧ some k_ ≠ (.slice Ao58 t291.length co58 : Value).ownBlock) s_.2.1 t320) ∧ (Kd.R (Kd.int .i64) 3 w' w.heap.size (fun k_ => some k_ ≠ (s_.1 : Value).ownBlock ∧ some k_ ≠ (.slice Ao36 t268.length co36 : Value).ownBlock ∧ some k_ ≠ (.slice Ao44 t304.length co44 : Value).ownBlock ∧ some k_ ≠ (.slice Ao56 t288.length co56 : Value).ownBlock) s_.2.2.1 t323) ∧ (Kd.R k24 24 w' w.heap.size (fun k_ => some k_ ≠ (s_.2.1 : Value).ownBlock ∧ some k_ ≠ (.slice Ao38 t271.length co38 : Value).ownBlock ∧ some k_ ≠ (.slice Ao49 t305.length co49 : Value).ownBlock ∧ some k_ ≠ (.slice Ao58 t291.length co58 : Value).ownBlock) s_.2.2.2.1 t326) ∧ (Kd.R (Kd.int .i64) 3 w' w.heap.size (fun k_ => some k_ ≠ (s_.1 : Value).ownBlock ∧ some k_ ≠ (s_.2.2.1 : Value).ownBlock ∧ some k_ ≠ (.slice Ao44 t304.length co44 : Value).ownBlock ∧ some k_ ≠ (.slice Ao56 t288.length co56 : Value).ownBlock) (.slice Ao36 t268.length co36) t268) ∧ (Kd.R k24 24 w' w.heap.size (fun k_ => some k_ ≠ (s_.2.1 : Value).ownBlock ∧ some k_ ≠ (s_.2.2.2.1 : Value).ownBlock ∧ some k_ ≠ (.slice Ao49 t305.length co49 : Value).ownBlock ∧ some k_ ≠ (.slice Ao58 t291.length co58 : Value).ownBlock) (.slice Ao38 t271.length co38) t271) ∧ (Kd.R (Kd.int .i64) 3 w' w.heap.size (fun k_ => some k_ ≠ (s_.1 : Value).ownBlock ∧ some k_ ≠ (s_.2.2.1 : Value).ownBlock ∧ some k_ ≠ (.slice Ao36 t268.length co36 : Value).ownBlock ∧ some k_ ≠ (.slice Ao56 t288.length co56 : Value).ownBlock) (.slice Ao44 t304.length co44) t304) ∧ (Kd.R k24 24 w' w.heap.size (fun k_ => some k_ ≠ (s_.2.1 : Value).ownBlock ∧ some k_ ≠ (s_.2.2.2.1 : Value).ownBlock ∧ some k_ ≠ (.slice Ao38 t271.length co38 : Value).ownBlock ∧ some k_ ≠ (.slice Ao58 t291.length co58 : Value).ownBlock) (.slice Ao49 t305.length co49) t305) ∧ (Kd.R (Kd.int .i64) 3 w' w.heap.size (fun k_ => some k_ ≠ (s_.1 : Value).ownBlock ∧ some k_ ≠ (s_.2.2.1 : Value).ownBlock ∧ some k_ ≠ (.slice Ao36 t268.length co36 : Value).ownBlock ∧ some k_ ≠ (.slice Ao44 t304.length co44 : Value).ownBlock) (.slice Ao56 t288.length co56) t308) ∧ (Kd.R k24 24 w' w.heap.size (fun k_ => some k_ ≠ (s_.2.1 : Value).ownBlock ∧ some k_ ≠ (s_.2.2.2.1 : Value).ownBlock ∧ some k_ ≠ (.slice Ao38 t271.length co38 : Value).ownBlock ∧ some k_ ≠ (.slice Ao49 t305.length co49 : Value).ownBlock) (.slice Ao58 t291.length co58) t309) ∧ (w'.heap[gb253]? = some (.cells #[.int .i64 a0_0, .int .i64 a0_1, .int .i64 a0_2, .int .i64 a0_3, .int .i64 a0_4, .int .i64 a0_5] 32 (0, 0))) ∧ (w'.heap[gb254]? = some (.cells #[.slice A1_0 l1_0.length c1_0, .slice A1_1 l1_1.length c1_1] 64 (0, 0))) ∧ (w'.heap[gb274]? = some (.cells #[.slice Ao36 t268.length co36, .slice Ao38 t271.length co38] 50 (0, 0))) ∧ (w'.heap[gb281]? = some (.cells #[.slice Ao44 t304.length co44, .slice Ao49 t305.length co49] 50 (0, 0))) ∧ (w'.heap[gb294]? = some (.cells #[.slice Ao56 t288.length co56, .slice Ao58 t291.length co58] 50 (0, 0))) ∧ (w'.heap[s_.2.2.2.2]? = some (.cells #[.slice none 0 0, .slice none 0 0] 50 (0, 0))) ∧ (w.heap.size ≤ s_.2.2.2.2) ∧ (w.heap.size ≤ s_.2.2.2.2) ∧ (gb253 ≠ s_.2.2.2.2) ∧ (s_.2.2.2.2 ≠ gb253) ∧ (gb254 ≠ s_.2.2.2.2) ∧ (s_.2.2.2.2 ≠ gb254) ∧ (gb274 ≠ s_.2.2.2.2) ∧ (s_.2.2.2.2 ≠ gb274) ∧ (gb281 ≠ s_.2.2.2.2) ∧ (s_.2.2.2.2 ≠ gb281) ∧ (gb294 ≠ s_.2.2.2.2) ∧ (s_.2.2.2.2 ≠ gb294) ∧ (Below w.heap.size w w')) ?_ ?_
            rotate_left
            ·intro hCont
             refine two_ (i := 1) (j := 5) (Ni := some 61) (Nj := some 12) #[true, true, true, false, false, false, false] #[true, false, true, false, false, true, false] rfl rfl rfl rfl (by kernel_rfl) (by decide) (by decide) (fun K hK => ?_) (fun K hK => ?_)
             ·skip
              refine goes_ Try.func21 (by kernel_rfl) rfl #[.agg #[.int .i64 a0_0, .int .i64 a0_1, .int .i64 a0_2, .int .i64 a0_3, .int .i64 a0_4, .int .i64 a0_5]] (by rfl) rfl rfl (by (try simp only [List.map_toArray, List.map_cons, List.map_nil]); first | done | rfl | (simp only [List.length_drop, List.length_take]; rfl)) ?_
              with_reducible refine (laws_toMat.calls a0_0 a0_1 a0_2 a0_3 a0_4 a0_5 t311 t312 t313 t314 t315 t316 _ A100.out).mono ?_
              rintro e w150 ⟨rfl, hb⟩
              refine ⟨_, rfl, ?_⟩
              have n0_ := Aside0.mk (Kd.R_below HO_275000.out hb)
              have n1_ := Aside0.mk (Kd.R_below HO_275001.out hb)
              have n2_ := Aside0.mk (Kd.R_below HO_282000.out hb)
              have n3_ := Aside0.mk (Kd.R_below HO_282001.out hb)
              have n4_ := Aside0.mk (Kd.R_below HO_295000.out hb)
              have n5_ := Aside0.mk (Kd.R_below HO_295001.out hb)
              have n6_ := Aside0.mk (blk_below BK253.out hb)
              have n7_ := Aside0.mk (blk_below BK254.out hb)
              have n8_ := Aside0.mk (blk_below BK274.out hb)
              have n9_ := Aside0.mk (blk_below BK281.out hb)
              have n10_ := Aside0.mk (blk_below BK294.out hb)
              have n11_ := Aside0.mk (below_step HB.out hb)
              clear HO_275000
              clear HO_275001
              clear HO_282000
              clear HO_282001
              clear HO_295000
              clear HO_295001
              clear BK253
              clear BK254
              clear BK274
              clear BK281
              clear BK294
              clear HB
              have HO_275000 := n0_
              have HO_275001 := n1_
              have HO_282000 := n2_
              have HO_282001 := n3_
              have HO_295000 := n4_
              have HO_295001 := n5_
              have BK253 := n6_
              have BK254 := n7_
              have BK274 := n8_
              have BK281 := n9_
              have BK294 := n10_
              have HB := n11_
              clear n0_ n1_ n2_ n3_ n4_ n5_ n6_ n7_ n8_ n9_ n10_ n11_
              (try clear hb)
              (try clear hb2)
              (try clear hk)
              (try clear hi)
              refine hK.out _ _ ⟨(blk_cell BK253.out 0).trans rfl, (blk_cell BK253.out 1).trans rfl, (blk_cell BK253.out 2).trans rfl, (blk_cell BK253.out 3).trans rfl, (blk_cell BK253.out 4).trans rfl, (blk_cell BK253.out 5).trans rfl, (blk_cell BK254.out 0).trans rfl, (blk_cell BK254.out 1).trans rfl⟩ (fun hHeld => ?_)
              clear hK K
              refine norm_ (a' := ?_) ?_ ?_
              rotate_left
              ·show Act.put _ (some 61) _ = _
               simp only [Act.put, List.setIfInBounds_toArray, List.set_cons_zero, List.set_cons_succ, i64_w, i32_w]
               rfl
              refine two_ (i := 3) (j := 5) (Ni := some 63) (Nj := some 12) #[true, true, true, true, false, false, false] #[true, true, true, false, false, true, false] rfl rfl rfl rfl (by kernel_rfl) (by decide) (by decide) (fun K hK => ?_) (fun K hK => ?_)
              ·skip
               refine goes_ Try.func44 (by kernel_rfl) rfl #[.agg #[.slice A1_0 l1_0.length c1_0, .slice A1_1 l1_1.length c1_1]] (by rfl) rfl rfl (by (try simp only [List.map_toArray, List.map_cons, List.map_nil]); first | done | rfl | (simp only [List.length_drop, List.length_take]; rfl)) ?_
               with_reducible refine (laws_toPath.calls kj21 _ _ l1_0 _ _ l1_1 t317 t320 _ ?side1 ?side2 ?side3 ?side4 A101.out).mono ?_
               (case side1 => exact (Kd.C_below HR1_0.out HB.out))
               (case side2 => exact HC1_0.out)
               (case side3 => exact (Kd.C_below HR1_1.out HB.out))
               (case side4 => exact HC1_1.out)
               rintro e w151 ⟨v318, v321, rfl, ho0, ho1, hb⟩
               refine ⟨_, rfl, ?_⟩
               have n0_ := Aside0.mk (Kd.R_elder' HO_275000.out (Kd.R_base ho0) hb)
               have n1_ := Aside0.mk (Kd.R_elder' HO_275001.out (Kd.R_base ho1) hb)
               have n2_ := Aside0.mk (Kd.R_elder' HO_282000.out (Kd.R_base ho0) hb)
               have n3_ := Aside0.mk (Kd.R_elder' HO_282001.out (Kd.R_base ho1) hb)
               have n4_ := Aside0.mk (Kd.R_elder' HO_295000.out (Kd.R_base ho0) hb)
               have n5_ := Aside0.mk (Kd.R_elder' HO_295001.out (Kd.R_base ho1) hb)
               have n6_ := Aside0.mk (Kd.R_lower (Kd.R_new' (Kd.R_new' (Kd.R_new' ho0 (Kd.R_lt HO_275000.out)) (Kd.R_lt HO_282000.out)) (Kd.R_lt HO_295000.out)) (below_size HB.out))
               have n7_ := Aside0.mk (Kd.R_lower (Kd.R_new' (Kd.R_new' (Kd.R_new' ho1 (Kd.R_lt HO_275001.out)) (Kd.R_lt HO_282001.out)) (Kd.R_lt HO_295001.out)) (below_size HB.out))
               have n8_ := Aside0.mk (blk_below BK253.out hb)
               have n9_ := Aside0.mk (blk_below BK254.out hb)
               have n10_ := Aside0.mk (blk_below BK274.out hb)
               have n11_ := Aside0.mk (blk_below BK281.out hb)
               have n12_ := Aside0.mk (blk_below BK294.out hb)
               have n13_ := Aside0.mk (below_step HB.out hb)
               clear HO_275000
               clear HO_275001
               clear HO_282000
               clear HO_282001
               clear HO_295000
               clear HO_295001
               clear BK253
               clear BK254
               clear BK274
               clear BK281
               clear BK294
               clear HB
               have HO_275000 := n0_
               have HO_275001 := n1_
               have HO_282000 := n2_
               have HO_282001 := n3_
               have HO_295000 := n4_
               have HO_295001 := n5_
               have HO319 := n6_
               have HO322 := n7_
               have BK253 := n8_
               have BK254 := n9_
               have BK274 := n10_
               have BK281 := n11_
               have BK294 := n12_
               have HB := n13_
               clear n0_ n1_ n2_ n3_ n4_ n5_ n6_ n7_ n8_ n9_ n10_ n11_ n12_ n13_
               (try clear hb)
               (try clear hb2)
               (try clear hk)
               (try clear hi)
               (try clear ho0)
               (try clear ho1)
               obtain ⟨Ao152, co152, eo152⟩ := Kd.R_slice HO319.out
               (first | subst eo152 | (injection eo152 with f1_ f2_ f3_; have f4_ := f1_.symm; have f5_ := f3_.symm; clear f1_ f2_ f3_; subst f4_; subst f5_))
               obtain ⟨Ao153, co153, eo153⟩ := Kd.R_slice HO322.out
               (first | subst eo153 | (injection eo153 with f1_ f2_ f3_; have f4_ := f1_.symm; have f5_ := f3_.symm; clear f1_ f2_ f3_; subst f4_; subst f5_))
               refine hK.out _ _ ⟨(blk_cell BK253.out 0).trans rfl, (blk_cell BK253.out 1).trans rfl, (blk_cell BK253.out 2).trans rfl, (blk_cell BK253.out 3).trans rfl, (blk_cell BK253.out 4).trans rfl, (blk_cell BK253.out 5).trans rfl, (blk_cell BK254.out 0).trans rfl, (blk_cell BK254.out 1).trans rfl⟩ (fun hHeld => ?_)
               clear hK K
               refine norm_ (a' := ?_) ?_ ?_
               rotate_left
               ·show Act.put _ (some 63) _ = _
                simp only [Act.put, List.setIfInBounds_toArray, List.set_cons_zero, List.set_cons_succ, i64_w, i32_w]
                rfl
               refine two_ (i := 4) (j := 5) (Ni := some 64) (Nj := some 12) #[true, true, true, true, true, false, false] #[true, true, true, true, false, true, false] rfl rfl rfl rfl (by kernel_rfl) (by decide) (by decide) (fun K hK => ?_) (fun K hK => ?_)
               ·skip
                refine goes_ Try.func55 (by kernel_rfl) rfl #[.agg #[.int .i64 t311, .int .i64 t312, .int .i64 t313, .int .i64 t314, .int .i64 t315, .int .i64 t316], .agg #[.slice Ao152 t317.length co152, .slice Ao153 t320.length co153]] (by rfl) rfl rfl (by (try simp only [List.map_toArray, List.map_cons, List.map_nil]); first | done | rfl | (simp only [List.length_drop, List.length_take]; rfl)) ?_
                with_reducible refine (impl_MovePath.calls kj21 t311 t312 t313 t314 t315 t316 _ _ t317 _ _ t320 t323 t326 _ ?side1 ?side2 ?side3 ?side4 A102.out).mono ?_
                (case side1 => exact (Kd.R_reads' HO319.out).2.2)
                (case side2 => exact (Kd.R_reads' HO319.out).2.1)
                (case side3 => exact (Kd.R_reads' HO322.out).2.2)
                (case side4 => exact (Kd.R_reads' HO322.out).2.1)
                rintro e w154 ⟨v324, v327, rfl, ho0, ho1, hb⟩
                refine ⟨_, rfl, ?_⟩
                have n0_ := Aside0.mk (Kd.R_elder' HO_275000.out (Kd.R_base ho0) hb)
                have n1_ := Aside0.mk (Kd.R_elder' HO_275001.out (Kd.R_base ho1) hb)
                have n2_ := Aside0.mk (Kd.R_elder' HO_282000.out (Kd.R_base ho0) hb)
                have n3_ := Aside0.mk (Kd.R_elder' HO_282001.out (Kd.R_base ho1) hb)
                have n4_ := Aside0.mk (Kd.R_elder' HO_295000.out (Kd.R_base ho0) hb)
                have n5_ := Aside0.mk (Kd.R_elder' HO_295001.out (Kd.R_base ho1) hb)
                have n6_ := Aside0.mk (Kd.R_elder' HO319.out (Kd.R_base ho0) hb)
                have n7_ := Aside0.mk (Kd.R_elder' HO322.out (Kd.R_base ho1) hb)
                have n8_ := Aside0.mk (Kd.R_lower (Kd.R_new' (Kd.R_new' (Kd.R_new' (Kd.R_new' ho0 (Kd.R_lt HO_275000.out)) (Kd.R_lt HO_282000.out)) (Kd.R_lt HO_295000.out)) (Kd.R_lt HO319.out)) (below_size HB.out))
                have n9_ := Aside0.mk (Kd.R_lower (Kd.R_new' (Kd.R_new' (Kd.R_new' (Kd.R_new' ho1 (Kd.R_lt HO_275001.out)) (Kd.R_lt HO_282001.out)) (Kd.R_lt HO_295001.out)) (Kd.R_lt HO322.out)) (below_size HB.out))
                have n10_ := Aside0.mk (blk_below BK253.out hb)
                have n11_ := Aside0.mk (blk_below BK254.out hb)
                have n12_ := Aside0.mk (blk_below BK274.out hb)
                have n13_ := Aside0.mk (blk_below BK281.out hb)
                have n14_ := Aside0.mk (blk_below BK294.out hb)
                have n15_ := Aside0.mk (below_step HB.out hb)
                clear HO_275000
                clear HO_275001
                clear HO_282000
                clear HO_282001
                clear HO_295000
                clear HO_295001
                clear HO319
                clear HO322
                clear BK253
                clear BK254
                clear BK274
                clear BK281
                clear BK294
                clear HB
                have HO_275000 := n0_
                have HO_275001 := n1_
                have HO_282000 := n2_
                have HO_282001 := n3_
                have HO_295000 := n4_
                have HO_295001 := n5_
                have HO319 := n6_
                have HO322 := n7_
                have HO325 := n8_
                have HO328 := n9_
                have BK253 := n10_
                have BK254 := n11_
                have BK274 := n12_
                have BK281 := n13_
                have BK294 := n14_
                have HB := n15_
                clear n0_ n1_ n2_ n3_ n4_ n5_ n6_ n7_ n8_ n9_ n10_ n11_ n12_ n13_ n14_ n15_
                (try clear hb)
                (try clear hb2)
                (try clear hk)
                (try clear hi)
                (try clear ho0)
                (try clear ho1)
                refine hK.out _ _ ⟨(blk_cell BK253.out 0).trans rfl, (blk_cell BK253.out 1).trans rfl, (blk_cell BK253.out 2).trans rfl, (blk_cell BK253.out 3).trans rfl, (blk_cell BK253.out 4).trans rfl, (blk_cell BK253.out 5).trans rfl, (blk_cell BK254.out 0).trans rfl, (blk_cell BK254.out 1).trans rfl⟩ (fun hHeld => ?_)
                clear hK K
                refine norm_ (a' := ?_) ?_ ?_
                rotate_left
                ·show Act.put _ (some 64) _ = _
                 simp only [Act.put, List.setIfInBounds_toArray, List.set_cons_zero, List.set_cons_succ, i64_w, i32_w]
                 rfl
                refine one_ (i := 5) (N := some 12) #[true, true, true, true, true, true, false] rfl rfl (by kernel_rfl) (by decide) (fun K hK => ?_)
                refine box_step ?hg (N := 12) ?hd (cs := #[.slice none 0 0, .slice none 0 0]) (t := 50) ?hr ?_; (case hd => rfl); (case hg => rfl); (case hr => first | (go_simp; done) | (go_simp; rfl))
                intro gb329 hg w155 hbox hb
                have n0_ := Aside0.mk (Kd.R_below HO_275000.out hb)
                have n1_ := Aside0.mk (Kd.R_below HO_275001.out hb)
                have n2_ := Aside0.mk (Kd.R_below HO_282000.out hb)
                have n3_ := Aside0.mk (Kd.R_below HO_282001.out hb)
                have n4_ := Aside0.mk (Kd.R_below HO_295000.out hb)
                have n5_ := Aside0.mk (Kd.R_below HO_295001.out hb)
                have n6_ := Aside0.mk (Kd.R_below HO319.out hb)
                have n7_ := Aside0.mk (Kd.R_below HO322.out hb)
                have n8_ := Aside0.mk (Kd.R_below HO325.out hb)
                have n9_ := Aside0.mk (Kd.R_below HO328.out hb)
                have n10_ := Aside0.mk (blk_below BK253.out hb)
                have n11_ := Aside0.mk (blk_below BK254.out hb)
                have n12_ := Aside0.mk (blk_below BK274.out hb)
                have n13_ := Aside0.mk (blk_below BK281.out hb)
                have n14_ := Aside0.mk (blk_below BK294.out hb)
                have n15_ := Aside0.mk (below_step HB.out hb)
                have n16_ := Aside0.mk (hbox)
                have n17_ := Aside0.mk ((by rw [hg]; exact (below_size HB.out) : w.heap.size ≤ gb329))
                have n18_ := Aside0.mk ((by rw [hg]; exact (below_size HB.out) : w.heap.size ≤ gb329))
                have n19_ := Aside0.mk ((by rw [hg]; exact Nat.ne_of_lt (blk_lt BK253.out) : gb253 ≠ gb329))
                have n20_ := Aside0.mk ((by rw [hg]; exact Nat.ne_of_gt (blk_lt BK253.out) : gb329 ≠ gb253))
                have n21_ := Aside0.mk ((by rw [hg]; exact Nat.ne_of_lt (blk_lt BK254.out) : gb254 ≠ gb329))
                have n22_ := Aside0.mk ((by rw [hg]; exact Nat.ne_of_gt (blk_lt BK254.out) : gb329 ≠ gb254))
                have n23_ := Aside0.mk ((by rw [hg]; exact Nat.ne_of_lt (blk_lt BK274.out) : gb274 ≠ gb329))
                have n24_ := Aside0.mk ((by rw [hg]; exact Nat.ne_of_gt (blk_lt BK274.out) : gb329 ≠ gb274))
                have n25_ := Aside0.mk ((by rw [hg]; exact Nat.ne_of_lt (blk_lt BK281.out) : gb281 ≠ gb329))
                have n26_ := Aside0.mk ((by rw [hg]; exact Nat.ne_of_gt (blk_lt BK281.out) : gb329 ≠ gb281))
                have n27_ := Aside0.mk ((by rw [hg]; exact Nat.ne_of_lt (blk_lt BK294.out) : gb294 ≠ gb329))
                have n28_ := Aside0.mk ((by rw [hg]; exact Nat.ne_of_gt (blk_lt BK294.out) : gb329 ≠ gb294))
                clear HO_275000
                clear HO_275001
                clear HO_282000
                clear HO_282001
                clear HO_295000
                clear HO_295001
                clear HO319
                clear HO322
                clear HO325
                clear HO328
                clear BK253
                clear BK254
                clear BK274
                clear BK281
                clear BK294
                clear HB
                have HO_275000 := n0_
                have HO_275001 := n1_
                have HO_282000 := n2_
                have HO_282001 := n3_
                have HO_295000 := n4_
                have HO_295001 := n5_
                have HO319 := n6_
                have HO322 := n7_
                have HO325 := n8_
                have HO328 := n9_
                have BK253 := n10_
                have BK254 := n11_
                have BK274 := n12_
                have BK281 := n13_
                have BK294 := n14_
                have HB := n15_
                have BK329 := n16_
                have GW329 := n17_
                have GE329 := n18_
                have NB253_329 := n19_
                have NB329_253 := n20_
                have NB254_329 := n21_
                have NB329_254 := n22_
                have NB274_329 := n23_
                have NB329_274 := n24_
                have NB281_329 := n25_
                have NB329_281 := n26_
                have NB294_329 := n27_
                have NB329_294 := n28_
                clear n0_ n1_ n2_ n3_ n4_ n5_ n6_ n7_ n8_ n9_ n10_ n11_ n12_ n13_ n14_ n15_ n16_ n17_ n18_ n19_ n20_ n21_ n22_ n23_ n24_ n25_ n26_ n27_ n28_
                clear hb hbox hg
                refine hK.out _ _ ⟨(blk_cell BK253.out 0).trans rfl, (blk_cell BK253.out 1).trans rfl, (blk_cell BK253.out 2).trans rfl, (blk_cell BK253.out 3).trans rfl, (blk_cell BK253.out 4).trans rfl, (blk_cell BK253.out 5).trans rfl, (blk_cell BK254.out 0).trans rfl, (blk_cell BK254.out 1).trans rfl⟩ (fun hHeld => ?_)
                clear hK K
                refine norm_ (a' := ?_) ?_ ?_
                rotate_left
                ·show Act.put _ (some 12) _ = _
                 simp only [Act.put, List.setIfInBounds_toArray, List.set_cons_zero, List.set_cons_succ, i64_w, i32_w]
                 rfl
                exact norm_ (by simp only [putAll, Act.put, List.setIfInBounds_toArray, List.set_cons_zero, List.set_cons_succ]) (hCont (.slice Ao152 t317.length co152, .slice Ao153 t320.length co153, v324, v327, gb329) _ ⟨hHeld, (Kd.R_mono HO319.out (fun _ hk => ⟨hk.2, ⟨hk.1.1.1.2, ⟨hk.1.1.2, hk.1.2⟩⟩⟩)), (Kd.R_mono HO322.out (fun _ hk => ⟨hk.2, ⟨hk.1.1.1.2, ⟨hk.1.1.2, hk.1.2⟩⟩⟩)), (Kd.R_mono HO325.out (fun _ hk => ⟨hk.2, ⟨hk.1.1.1.2, ⟨hk.1.1.2, hk.1.2⟩⟩⟩)), (Kd.R_mono HO328.out (fun _ hk => ⟨hk.2, ⟨hk.1.1.1.2, ⟨hk.1.1.2, hk.1.2⟩⟩⟩)), (Kd.R_mono HO_275000.out (fun _ hk => ⟨hk.1.2, ⟨hk.2, ⟨hk.1.1.1, hk.1.1.2⟩⟩⟩)), (Kd.R_mono HO_275001.out (fun _ hk => ⟨hk.1.2, ⟨hk.2, ⟨hk.1.1.1, hk.1.1.2⟩⟩⟩)), (Kd.R_mono HO_282000.out (fun _ hk => ⟨hk.1.2, ⟨hk.2, ⟨hk.1.1.1, hk.1.1.2⟩⟩⟩)), (Kd.R_mono HO_282001.out (fun _ hk => ⟨hk.1.2, ⟨hk.2, ⟨hk.1.1.1, hk.1.1.2⟩⟩⟩)), (Kd.R_mono HO_295000.out (fun _ hk => ⟨hk.1.2, ⟨hk.2, ⟨hk.1.1.1, hk.1.1.2⟩⟩⟩)), (Kd.R_mono HO_295001.out (fun _ hk => ⟨hk.1.2, ⟨hk.2, ⟨hk.1.1.1, hk.1.1.2⟩⟩⟩)), BK253.out, BK254.out, BK274.out, BK281.out, BK294.out, BK329.out, GW329.out, GE329.out, NB253_329.out, NB329_253.out, NB254_329.out, NB329_254.out, NB274_329.out, NB329_274.out, NB281_329.out, NB329_281.out, NB294_329.out, NB329_294.out, HB.out⟩)
               ·skip
                refine box_step ?hg (N := 12) ?hd (cs := #[.slice none 0 0, .slice none 0 0]) (t := 50) ?hr ?_; (case hd => rfl); (case hg => rfl); (case hr => first | (go_simp; done) | (go_simp; rfl))
                intro gb329 hg w152 hbox hb
                have n0_ := Aside0.mk (Kd.R_below HO_275000.out hb)
                have n1_ := Aside0.mk (Kd.R_below HO_275001.out hb)
                have n2_ := Aside0.mk (Kd.R_below HO_282000.out hb)
                have n3_ := Aside0.mk (Kd.R_below HO_282001.out hb)
                have n4_ := Aside0.mk (Kd.R_below HO_295000.out hb)
                have n5_ := Aside0.mk (Kd.R_below HO_295001.out hb)
                have n6_ := Aside0.mk (Kd.R_below HO319.out hb)
                have n7_ := Aside0.mk (Kd.R_below HO322.out hb)
                have n8_ := Aside0.mk (blk_below BK253.out hb)
                have n9_ := Aside0.mk (blk_below BK254.out hb)
                have n10_ := Aside0.mk (blk_below BK274.out hb)
                have n11_ := Aside0.mk (blk_below BK281.out hb)
                have n12_ := Aside0.mk (blk_below BK294.out hb)
                have n13_ := Aside0.mk (below_step HB.out hb)
                have n14_ := Aside0.mk (hbox)
                have n15_ := Aside0.mk ((by rw [hg]; exact (below_size HB.out) : w.heap.size ≤ gb329))
                have n16_ := Aside0.mk ((by rw [hg]; exact (below_size HB.out) : w.heap.size ≤ gb329))
                have n17_ := Aside0.mk ((by rw [hg]; exact Nat.ne_of_lt (blk_lt BK253.out) : gb253 ≠ gb329))
                have n18_ := Aside0.mk ((by rw [hg]; exact Nat.ne_of_gt (blk_lt BK253.out) : gb329 ≠ gb253))
                have n19_ := Aside0.mk ((by rw [hg]; exact Nat.ne_of_lt (blk_lt BK254.out) : gb254 ≠ gb329))
                have n20_ := Aside0.mk ((by rw [hg]; exact Nat.ne_of_gt (blk_lt BK254.out) : gb329 ≠ gb254))
                have n21_ := Aside0.mk ((by rw [hg]; exact Nat.ne_of_lt (blk_lt BK274.out) : gb274 ≠ gb329))
                have n22_ := Aside0.mk ((by rw [hg]; exact Nat.ne_of_gt (blk_lt BK274.out) : gb329 ≠ gb274))
                have n23_ := Aside0.mk ((by rw [hg]; exact Nat.ne_of_lt (blk_lt BK281.out) : gb281 ≠ gb329))
                have n24_ := Aside0.mk ((by rw [hg]; exact Nat.ne_of_gt (blk_lt BK281.out) : gb329 ≠ gb281))
                have n25_ := Aside0.mk ((by rw [hg]; exact Nat.ne_of_lt (blk_lt BK294.out) : gb294 ≠ gb329))
                have n26_ := Aside0.mk ((by rw [hg]; exact Nat.ne_of_gt (blk_lt BK294.out) : gb329 ≠ gb294))
                clear HO_275000
                clear HO_275001
                clear HO_282000
                clear HO_282001
                clear HO_295000
                clear HO_295001
                clear HO319
                clear HO322
                clear BK253
                clear BK254
                clear BK274
                clear BK281
                clear BK294
                clear HB
                have HO_275000 := n0_
                have HO_275001 := n1_
                have HO_282000 := n2_
                have HO_282001 := n3_
                have HO_295000 := n4_
                have HO_295001 := n5_
                have HO319 := n6_
                have HO322 := n7_
                have BK253 := n8_
                have BK254 := n9_
                have BK274 := n10_
                have BK281 := n11_
                have BK294 := n12_
                have HB := n13_
                have BK329 := n14_
                have GW329 := n15_
                have GE329 := n16_
                have NB253_329 := n17_
                have NB329_253 := n18_
                have NB254_329 := n19_
                have NB329_254 := n20_
                have NB274_329 := n21_
                have NB329_274 := n22_
                have NB281_329 := n23_
                have NB329_281 := n24_
                have NB294_329 := n25_
                have NB329_294 := n26_
                clear n0_ n1_ n2_ n3_ n4_ n5_ n6_ n7_ n8_ n9_ n10_ n11_ n12_ n13_ n14_ n15_ n16_ n17_ n18_ n19_ n20_ n21_ n22_ n23_ n24_ n25_ n26_
                clear hb hbox hg
                obtain ⟨Ao153, co153, eo153⟩ := Kd.R_slice HO319.out
                (first | subst eo153 | (injection eo153 with f1_ f2_ f3_; have f4_ := f1_.symm; have f5_ := f3_.symm; clear f1_ f2_ f3_; subst f4_; subst f5_))
                obtain ⟨Ao154, co154, eo154⟩ := Kd.R_slice HO322.out
                (first | subst eo154 | (injection eo154 with f1_ f2_ f3_; have f4_ := f1_.symm; have f5_ := f3_.symm; clear f1_ f2_ f3_; subst f4_; subst f5_))
                refine hK.out _ _ ⟨(blk_cell BK253.out 0).trans rfl, (blk_cell BK253.out 1).trans rfl, (blk_cell BK253.out 2).trans rfl, (blk_cell BK253.out 3).trans rfl, (blk_cell BK253.out 4).trans rfl, (blk_cell BK253.out 5).trans rfl, (blk_cell BK254.out 0).trans rfl, (blk_cell BK254.out 1).trans rfl⟩ (fun hHeld => ?_)
                clear hK K
                refine norm_ (a' := ?_) ?_ ?_
                rotate_left
                ·show Act.put _ (some 12) _ = _
                 simp only [Act.put, List.setIfInBounds_toArray, List.set_cons_zero, List.set_cons_succ, i64_w, i32_w]
                 rfl
                refine one_ (i := 4) (N := some 64) #[true, true, true, true, true, true, false] rfl rfl (by kernel_rfl) (by decide) (fun K hK => ?_)
                refine goes_ Try.func55 (by kernel_rfl) rfl #[.agg #[.int .i64 t311, .int .i64 t312, .int .i64 t313, .int .i64 t314, .int .i64 t315, .int .i64 t316], .agg #[.slice Ao153 t317.length co153, .slice Ao154 t320.length co154]] (by rfl) rfl rfl (by (try simp only [List.map_toArray, List.map_cons, List.map_nil]); first | done | rfl | (simp only [List.length_drop, List.length_take]; rfl)) ?_
                with_reducible refine (impl_MovePath.calls kj21 t311 t312 t313 t314 t315 t316 _ _ t317 _ _ t320 t323 t326 _ ?side1 ?side2 ?side3 ?side4 A102.out).mono ?_
                (case side1 => exact (Kd.R_reads' HO319.out).2.2)
                (case side2 => exact (Kd.R_reads' HO319.out).2.1)
                (case side3 => exact (Kd.R_reads' HO322.out).2.2)
                (case side4 => exact (Kd.R_reads' HO322.out).2.1)
                rintro e w155 ⟨v324, v327, rfl, ho0, ho1, hb⟩
                refine ⟨_, rfl, ?_⟩
                have n0_ := Aside0.mk (Kd.R_elder' HO_275000.out (Kd.R_base ho0) hb)
                have n1_ := Aside0.mk (Kd.R_elder' HO_275001.out (Kd.R_base ho1) hb)
                have n2_ := Aside0.mk (Kd.R_elder' HO_282000.out (Kd.R_base ho0) hb)
                have n3_ := Aside0.mk (Kd.R_elder' HO_282001.out (Kd.R_base ho1) hb)
                have n4_ := Aside0.mk (Kd.R_elder' HO_295000.out (Kd.R_base ho0) hb)
                have n5_ := Aside0.mk (Kd.R_elder' HO_295001.out (Kd.R_base ho1) hb)
                have n6_ := Aside0.mk (Kd.R_elder' HO319.out (Kd.R_base ho0) hb)
                have n7_ := Aside0.mk (Kd.R_elder' HO322.out (Kd.R_base ho1) hb)
                have n8_ := Aside0.mk (Kd.R_lower (Kd.R_new' (Kd.R_new' (Kd.R_new' (Kd.R_new' ho0 (Kd.R_lt HO_275000.out)) (Kd.R_lt HO_282000.out)) (Kd.R_lt HO_295000.out)) (Kd.R_lt HO319.out)) (below_size HB.out))
                have n9_ := Aside0.mk (Kd.R_lower (Kd.R_new' (Kd.R_new' (Kd.R_new' (Kd.R_new' ho1 (Kd.R_lt HO_275001.out)) (Kd.R_lt HO_282001.out)) (Kd.R_lt HO_295001.out)) (Kd.R_lt HO322.out)) (below_size HB.out))
                have n10_ := Aside0.mk (blk_below BK253.out hb)
                have n11_ := Aside0.mk (blk_below BK254.out hb)
                have n12_ := Aside0.mk (blk_below BK274.out hb)
                have n13_ := Aside0.mk (blk_below BK281.out hb)
                have n14_ := Aside0.mk (blk_below BK294.out hb)
                have n15_ := Aside0.mk (blk_below BK329.out hb)
                have n16_ := Aside0.mk (below_step HB.out hb)
                clear HO_275000
                clear HO_275001
                clear HO_282000
                clear HO_282001
                clear HO_295000
                clear HO_295001
                clear HO319
                clear HO322
                clear BK253
                clear BK254
                clear BK274
                clear BK281
                clear BK294
                clear BK329
                clear HB
                have HO_275000 := n0_
                have HO_275001 := n1_
                have HO_282000 := n2_
                have HO_282001 := n3_
                have HO_295000 := n4_
                have HO_295001 := n5_
                have HO319 := n6_
                have HO322 := n7_
                have HO325 := n8_
                have HO328 := n9_
                have BK253 := n10_
                have BK254 := n11_
                have BK274 := n12_
                have BK281 := n13_
                have BK294 := n14_
                have BK329 := n15_
                have HB := n16_
                clear n0_ n1_ n2_ n3_ n4_ n5_ n6_ n7_ n8_ n9_ n10_ n11_ n12_ n13_ n14_ n15_ n16_
                (try clear hb)
                (try clear hb2)
                (try clear hk)
                (try clear hi)
                (try clear ho0)
                (try clear ho1)
                refine hK.out _ _ ⟨(blk_cell BK253.out 0).trans rfl, (blk_cell BK253.out 1).trans rfl, (blk_cell BK253.out 2).trans rfl, (blk_cell BK253.out 3).trans rfl, (blk_cell BK253.out 4).trans rfl, (blk_cell BK253.out 5).trans rfl, (blk_cell BK254.out 0).trans rfl, (blk_cell BK254.out 1).trans rfl⟩ (fun hHeld => ?_)
                clear hK K
                refine norm_ (a' := ?_) ?_ ?_
                rotate_left
                ·show Act.put _ (some 64) _ = _
                 simp only [Act.put, List.setIfInBounds_toArray, List.set_cons_zero, List.set_cons_succ, i64_w, i32_w]
                 rfl
                exact norm_ (by simp only [putAll, Act.put, List.setIfInBounds_toArray, List.set_cons_zero, List.set_cons_succ]) (hCont (.slice Ao153 t317.length co153, .slice Ao154 t320.length co154, v324, v327, gb329) _ ⟨hHeld, (Kd.R_mono HO319.out (fun _ hk => ⟨hk.2, ⟨hk.1.1.1.2, ⟨hk.1.1.2, hk.1.2⟩⟩⟩)), (Kd.R_mono HO322.out (fun _ hk => ⟨hk.2, ⟨hk.1.1.1.2, ⟨hk.1.1.2, hk.1.2⟩⟩⟩)), (Kd.R_mono HO325.out (fun _ hk => ⟨hk.2, ⟨hk.1.1.1.2, ⟨hk.1.1.2, hk.1.2⟩⟩⟩)), (Kd.R_mono HO328.out (fun _ hk => ⟨hk.2, ⟨hk.1.1.1.2, ⟨hk.1.1.2, hk.1.2⟩⟩⟩)), (Kd.R_mono HO_275000.out (fun _ hk => ⟨hk.1.2, ⟨hk.2, ⟨hk.1.1.1, hk.1.1.2⟩⟩⟩)), (Kd.R_mono HO_275001.out (fun _ hk => ⟨hk.1.2, ⟨hk.2, ⟨hk.1.1.1, hk.1.1.2⟩⟩⟩)), (Kd.R_mono HO_282000.out (fun _ hk => ⟨hk.1.2, ⟨hk.2, ⟨hk.1.1.1, hk.1.1.2⟩⟩⟩)), (Kd.R_mono HO_282001.out (fun _ hk => ⟨hk.1.2, ⟨hk.2, ⟨hk.1.1.1, hk.1.1.2⟩⟩⟩)), (Kd.R_mono HO_295000.out (fun _ hk => ⟨hk.1.2, ⟨hk.2, ⟨hk.1.1.1, hk.1.1.2⟩⟩⟩)), (Kd.R_mono HO_295001.out (fun _ hk => ⟨hk.1.2, ⟨hk.2, ⟨hk.1.1.1, hk.1.1.2⟩⟩⟩)), BK253.out, BK254.out, BK274.out, BK281.out, BK294.out, BK329.out, GW329.out, GE329.out, NB253_329.out, NB329_253.out, NB254_329.out, NB329_254.out, NB274_329.out, NB329_274.out, NB281_329.out, NB329_281.out, NB294_329.out, NB329_294.out, HB.out⟩)
              ·skip
               refine box_step ?hg (N := 12) ?hd (cs := #[.slice none 0 0, .slice none 0 0]) (t := 50) ?hr ?_; (case hd => rfl); (case hg => rfl); (case hr => first | (go_simp; done) | (go_simp; rfl))
               intro gb329 hg w151 hbox hb
               have n0_ := Aside0.mk (Kd.R_below HO_275000.out hb)
               have n1_ := Aside0.mk (Kd.R_below HO_275001.out hb)
               have n2_ := Aside0.mk (Kd.R_below HO_282000.out hb)
               have n3_ := Aside0.mk (Kd.R_below HO_282001.out hb)
               have n4_ := Aside0.mk (Kd.R_below HO_295000.out hb)
               have n5_ := Aside0.mk (Kd.R_below HO_295001.out hb)
               have n6_ := Aside0.mk (blk_below BK253.out hb)
               have n7_ := Aside0.mk (blk_below BK254.out hb)
               have n8_ := Aside0.mk (blk_below BK274.out hb)
               have n9_ := Aside0.mk (blk_below BK281.out hb)
               have n10_ := Aside0.mk (blk_below BK294.out hb)
               have n11_ := Aside0.mk (below_step HB.out hb)
               have n12_ := Aside0.mk (hbox)
               have n13_ := Aside0.mk ((by rw [hg]; exact (below_size HB.out) : w.heap.size ≤ gb329))
               have n14_ := Aside0.mk ((by rw [hg]; exact (below_size HB.out) : w.heap.size ≤ gb329))
               have n15_ := Aside0.mk ((by rw [hg]; exact Nat.ne_of_lt (blk_lt BK253.out) : gb253 ≠ gb329))
               have n16_ := Aside0.mk ((by rw [hg]; exact Nat.ne_of_gt (blk_lt BK253.out) : gb329 ≠ gb253))
               have n17_ := Aside0.mk ((by rw [hg]; exact Nat.ne_of_lt (blk_lt BK254.out) : gb254 ≠ gb329))
               have n18_ := Aside0.mk ((by rw [hg]; exact Nat.ne_of_gt (blk_lt BK254.out) : gb329 ≠ gb254))
               have n19_ := Aside0.mk ((by rw [hg]; exact Nat.ne_of_lt (blk_lt BK274.out) : gb274 ≠ gb329))
               have n20_ := Aside0.mk ((by rw [hg]; exact Nat.ne_of_gt (blk_lt BK274.out) : gb329 ≠ gb274))
               have n21_ := Aside0.mk ((by rw [hg]; exact Nat.ne_of_lt (blk_lt BK281.out) : gb281 ≠ gb329))
               have n22_ := Aside0.mk ((by rw [hg]; exact Nat.ne_of_gt (blk_lt BK281.out) : gb329 ≠ gb281))
               have n23_ := Aside0.mk ((by rw [hg]; exact Nat.ne_of_lt (blk_lt BK294.out) : gb294 ≠ gb329))
               have n24_ := Aside0.mk ((by rw [hg]; exact Nat.ne_of_gt (blk_lt BK294.out) : gb329 ≠ gb294))
               clear HO_275000
               clear HO_275001
               clear HO_282000
               clear HO_282001
               clear HO_295000
               clear HO_295001
               clear BK253
               clear BK254
               clear BK274
               clear BK281
               clear BK294
               clear HB
               have HO_275000 := n0_
               have HO_275001 := n1_
               have HO_282000 := n2_
               have HO_282001 := n3_
               have HO_295000 := n4_
               have HO_295001 := n5_
               have BK253 := n6_
               have BK254 := n7_
               have BK274 := n8_
               have BK281 := n9_
               have BK294 := n10_
               have HB := n11_
               have BK329 := n12_
               have GW329 := n13_
               have GE329 := n14_
               have NB253_329 := n15_
               have NB329_253 := n16_
               have NB254_329 := n17_
               have NB329_254 := n18_
               have NB274_329 := n19_
               have NB329_274 := n20_
               have NB281_329 := n21_
               have NB329_281 := n22_
               have NB294_329 := n23_
               have NB329_294 := n24_
               clear n0_ n1_ n2_ n3_ n4_ n5_ n6_ n7_ n8_ n9_ n10_ n11_ n12_ n13_ n14_ n15_ n16_ n17_ n18_ n19_ n20_ n21_ n22_ n23_ n24_
               clear hb hbox hg
               refine hK.out _ _ ⟨(blk_cell BK253.out 0).trans rfl, (blk_cell BK253.out 1).trans rfl, (blk_cell BK253.out 2).trans rfl, (blk_cell BK253.out 3).trans rfl, (blk_cell BK253.out 4).trans rfl, (blk_cell BK253.out 5).trans rfl, (blk_cell BK254.out 0).trans rfl, (blk_cell BK254.out 1).trans rfl⟩ (fun hHeld => ?_)
               clear hK K
               refine norm_ (a' := ?_) ?_ ?_
               rotate_left
               ·show Act.put _ (some 12) _ = _
                simp only [Act.put, List.setIfInBounds_toArray, List.set_cons_zero, List.set_cons_succ, i64_w, i32_w]
                rfl
               refine one_ (i := 3) (N := some 63) #[true, true, true, true, false, true, false] rfl rfl (by kernel_rfl) (by decide) (fun K hK => ?_)
               refine goes_ Try.func44 (by kernel_rfl) rfl #[.agg #[.slice A1_0 l1_0.length c1_0, .slice A1_1 l1_1.length c1_1]] (by rfl) rfl rfl (by (try simp only [List.map_toArray, List.map_cons, List.map_nil]); first | done | rfl | (simp only [List.length_drop, List.length_take]; rfl)) ?_
               with_reducible refine (laws_toPath.calls kj21 _ _ l1_0 _ _ l1_1 t317 t320 _ ?side1 ?side2 ?side3 ?side4 A101.out).mono ?_
               (case side1 => exact (Kd.C_below HR1_0.out HB.out))
               (case side2 => exact HC1_0.out)
               (case side3 => exact (Kd.C_below HR1_1.out HB.out))
               (case side4 => exact HC1_1.out)
               rintro e w152 ⟨v318, v321, rfl, ho0, ho1, hb⟩
               refine ⟨_, rfl, ?_⟩
               have n0_ := Aside0.mk (Kd.R_elder' HO_275000.out (Kd.R_base ho0) hb)
               have n1_ := Aside0.mk (Kd.R_elder' HO_275001.out (Kd.R_base ho1) hb)
               have n2_ := Aside0.mk (Kd.R_elder' HO_282000.out (Kd.R_base ho0) hb)
               have n3_ := Aside0.mk (Kd.R_elder' HO_282001.out (Kd.R_base ho1) hb)
               have n4_ := Aside0.mk (Kd.R_elder' HO_295000.out (Kd.R_base ho0) hb)
               have n5_ := Aside0.mk (Kd.R_elder' HO_295001.out (Kd.R_base ho1) hb)
               have n6_ := Aside0.mk (Kd.R_lower (Kd.R_new' (Kd.R_new' (Kd.R_new' ho0 (Kd.R_lt HO_275000.out)) (Kd.R_lt HO_282000.out)) (Kd.R_lt HO_295000.out)) (below_size HB.out))
               have n7_ := Aside0.mk (Kd.R_lower (Kd.R_new' (Kd.R_new' (Kd.R_new' ho1 (Kd.R_lt HO_275001.out)) (Kd.R_lt HO_282001.out)) (Kd.R_lt HO_295001.out)) (below_size HB.out))
               have n8_ := Aside0.mk (blk_below BK253.out hb)
               have n9_ := Aside0.mk (blk_below BK254.out hb)
               have n10_ := Aside0.mk (blk_below BK274.out hb)
               have n11_ := Aside0.mk (blk_below BK281.out hb)
               have n12_ := Aside0.mk (blk_below BK294.out hb)
               have n13_ := Aside0.mk (blk_below BK329.out hb)
               have n14_ := Aside0.mk (below_step HB.out hb)
               clear HO_275000
               clear HO_275001
               clear HO_282000
               clear HO_282001
               clear HO_295000
               clear HO_295001
               clear BK253
               clear BK254
               clear BK274
               clear BK281
               clear BK294
               clear BK329
               clear HB
               have HO_275000 := n0_
               have HO_275001 := n1_
               have HO_282000 := n2_
               have HO_282001 := n3_
               have HO_295000 := n4_
               have HO_295001 := n5_
               have HO319 := n6_
               have HO322 := n7_
               have BK253 := n8_
               have BK254 := n9_
               have BK274 := n10_
               have BK281 := n11_
               have BK294 := n12_
               have BK329 := n13_
               have HB := n14_
               clear n0_ n1_ n2_ n3_ n4_ n5_ n6_ n7_ n8_ n9_ n10_ n11_ n12_ n13_ n14_
               (try clear hb)
               (try clear hb2)
               (try clear hk)
               (try clear hi)
               (try clear ho0)
               (try clear ho1)
               obtain ⟨Ao153, co153, eo153⟩ := Kd.R_slice HO319.out
               (first | subst eo153 | (injection eo153 with f1_ f2_ f3_; have f4_ := f1_.symm; have f5_ := f3_.symm; clear f1_ f2_ f3_; subst f4_; subst f5_))
               obtain ⟨Ao154, co154, eo154⟩ := Kd.R_slice HO322.out
               (first | subst eo154 | (injection eo154 with f1_ f2_ f3_; have f4_ := f1_.symm; have f5_ := f3_.symm; clear f1_ f2_ f3_; subst f4_; subst f5_))
               refine hK.out _ _ ⟨(blk_cell BK253.out 0).trans rfl, (blk_cell BK253.out 1).trans rfl, (blk_cell BK253.out 2).trans rfl, (blk_cell BK253.out 3).trans rfl, (blk_cell BK253.out 4).trans rfl, (blk_cell BK253.out 5).trans rfl, (blk_cell BK254.out 0).trans rfl, (blk_cell BK254.out 1).trans rfl⟩ (fun hHeld => ?_)
               clear hK K
               refine norm_ (a' := ?_) ?_ ?_
               rotate_left
               ·show Act.put _ (some 63) _ = _
                simp only [Act.put, List.setIfInBounds_toArray, List.set_cons_zero, List.set_cons_succ, i64_w, i32_w]
                rfl
               refine one_ (i := 4) (N := some 64) #[true, true, true, true, true, true, false] rfl rfl (by kernel_rfl) (by decide) (fun K hK => ?_)
               refine goes_ Try.func55 (by kernel_rfl) rfl #[.agg #[.int .i64 t311, .int .i64 t312, .int .i64 t313, .int .i64 t314, .int .i64 t315, .int .i64 t316], .agg #[.slice Ao153 t317.length co153, .slice Ao154 t320.length co154]] (by rfl) rfl rfl (by (try simp only [List.map_toArray, List.map_cons, List.map_nil]); first | done | rfl | (simp only [List.length_drop, List.length_take]; rfl)) ?_
               with_reducible refine (impl_MovePath.calls kj21 t311 t312 t313 t314 t315 t316 _ _ t317 _ _ t320 t323 t326 _ ?side1 ?side2 ?side3 ?side4 A102.out).mono ?_
               (case side1 => exact (Kd.R_reads' HO319.out).2.2)
               (case side2 => exact (Kd.R_reads' HO319.out).2.1)
               (case side3 => exact (Kd.R_reads' HO322.out).2.2)
               (case side4 => exact (Kd.R_reads' HO322.out).2.1)
               rintro e w155 ⟨v324, v327, rfl, ho0, ho1, hb⟩
               refine ⟨_, rfl, ?_⟩
               have n0_ := Aside0.mk (Kd.R_elder' HO_275000.out (Kd.R_base ho0) hb)
               have n1_ := Aside0.mk (Kd.R_elder' HO_275001.out (Kd.R_base ho1) hb)
               have n2_ := Aside0.mk (Kd.R_elder' HO_282000.out (Kd.R_base ho0) hb)
               have n3_ := Aside0.mk (Kd.R_elder' HO_282001.out (Kd.R_base ho1) hb)
               have n4_ := Aside0.mk (Kd.R_elder' HO_295000.out (Kd.R_base ho0) hb)
               have n5_ := Aside0.mk (Kd.R_elder' HO_295001.out (Kd.R_base ho1) hb)
               have n6_ := Aside0.mk (Kd.R_elder' HO319.out (Kd.R_base ho0) hb)
               have n7_ := Aside0.mk (Kd.R_elder' HO322.out (Kd.R_base ho1) hb)
               have n8_ := Aside0.mk (Kd.R_lower (Kd.R_new' (Kd.R_new' (Kd.R_new' (Kd.R_new' ho0 (Kd.R_lt HO_275000.out)) (Kd.R_lt HO_282000.out)) (Kd.R_lt HO_295000.out)) (Kd.R_lt HO319.out)) (below_size HB.out))
               have n9_ := Aside0.mk (Kd.R_lower (Kd.R_new' (Kd.R_new' (Kd.R_new' (Kd.R_new' ho1 (Kd.R_lt HO_275001.out)) (Kd.R_lt HO_282001.out)) (Kd.R_lt HO_295001.out)) (Kd.R_lt HO322.out)) (below_size HB.out))
               have n10_ := Aside0.mk (blk_below BK253.out hb)
               have n11_ := Aside0.mk (blk_below BK254.out hb)
               have n12_ := Aside0.mk (blk_below BK274.out hb)
               have n13_ := Aside0.mk (blk_below BK281.out hb)
               have n14_ := Aside0.mk (blk_below BK294.out hb)
               have n15_ := Aside0.mk (blk_below BK329.out hb)
               have n16_ := Aside0.mk (below_step HB.out hb)
               clear HO_275000
               clear HO_275001
               clear HO_282000
               clear HO_282001
               clear HO_295000
               clear HO_295001
               clear HO319
               clear HO322
               clear BK253
               clear BK254
               clear BK274
               clear BK281
               clear BK294
               clear BK329
               clear HB
               have HO_275000 := n0_
               have HO_275001 := n1_
               have HO_282000 := n2_
               have HO_282001 := n3_
               have HO_295000 := n4_
               have HO_295001 := n5_
               have HO319 := n6_
               have HO322 := n7_
               have HO325 := n8_
               have HO328 := n9_
               have BK253 := n10_
               have BK254 := n11_
               have BK274 := n12_
               have BK281 := n13_
               have BK294 := n14_
               have BK329 := n15_
               have HB := n16_
               clear n0_ n1_ n2_ n3_ n4_ n5_ n6_ n7_ n8_ n9_ n10_ n11_ n12_ n13_ n14_ n15_ n16_
               (try clear hb)
               (try clear hb2)
               (try clear hk)
               (try clear hi)
               (try clear ho0)
               (try clear ho1)
               refine hK.out _ _ ⟨(blk_cell BK253.out 0).trans rfl, (blk_cell BK253.out 1).trans rfl, (blk_cell BK253.out 2).trans rfl, (blk_cell BK253.out 3).trans rfl, (blk_cell BK253.out 4).trans rfl, (blk_cell BK253.out 5).trans rfl, (blk_cell BK254.out 0).trans rfl, (blk_cell BK254.out 1).trans rfl⟩ (fun hHeld => ?_)
               clear hK K
               refine norm_ (a' := ?_) ?_ ?_
               rotate_left
               ·show Act.put _ (some 64) _ = _
                simp only [Act.put, List.setIfInBounds_toArray, List.set_cons_zero, List.set_cons_succ, i64_w, i32_w]
                rfl
               exact norm_ (by simp only [putAll, Act.put, List.setIfInBounds_toArray, List.set_cons_zero, List.set_cons_succ]) (hCont (.slice Ao153 t317.length co153, .slice Ao154 t320.length co154, v324, v327, gb329) _ ⟨hHeld, (Kd.R_mono HO319.out (fun _ hk => ⟨hk.2, ⟨hk.1.1.1.2, ⟨hk.1.1.2, hk.1.2⟩⟩⟩)), (Kd.R_mono HO322.out (fun _ hk => ⟨hk.2, ⟨hk.1.1.1.2, ⟨hk.1.1.2, hk.1.2⟩⟩⟩)), (Kd.R_mono HO325.out (fun _ hk => ⟨hk.2, ⟨hk.1.1.1.2, ⟨hk.1.1.2, hk.1.2⟩⟩⟩)), (Kd.R_mono HO328.out (fun _ hk => ⟨hk.2, ⟨hk.1.1.1.2, ⟨hk.1.1.2, hk.1.2⟩⟩⟩)), (Kd.R_mono HO_275000.out (fun _ hk => ⟨hk.1.2, ⟨hk.2, ⟨hk.1.1.1, hk.1.1.2⟩⟩⟩)), (Kd.R_mono HO_275001.out (fun _ hk => ⟨hk.1.2, ⟨hk.2, ⟨hk.1.1.1, hk.1.1.2⟩⟩⟩)), (Kd.R_mono HO_282000.out (fun _ hk => ⟨hk.1.2, ⟨hk.2, ⟨hk.1.1.1, hk.1.1.2⟩⟩⟩)), (Kd.R_mono HO_282001.out (fun _ hk => ⟨hk.1.2, ⟨hk.2, ⟨hk.1.1.1, hk.1.1.2⟩⟩⟩)), (Kd.R_mono HO_295000.out (fun _ hk => ⟨hk.1.2, ⟨hk.2, ⟨hk.1.1.1, hk.1.1.2⟩⟩⟩)), (Kd.R_mono HO_295001.out (fun _ hk => ⟨hk.1.2, ⟨hk.2, ⟨hk.1.1.1, hk.1.1.2⟩⟩⟩)), BK253.out, BK254.out, BK274.out, BK281.out, BK294.out, BK329.out, GW329.out, GE329.out, NB253_329.out, NB329_253.out, NB254_329.out, NB329_254.out, NB274_329.out, NB329_274.out, NB281_329.out, NB329_281.out, NB294_329.out, NB329_294.out, HB.out⟩)
             ·skip
              refine box_step ?hg (N := 12) ?hd (cs := #[.slice none 0 0, .slice none 0 0]) (t := 50) ?hr ?_; (case hd => rfl); (case hg => rfl); (case hr => first | (go_simp; done) | (go_simp; rfl))
              intro gb329 hg w150 hbox hb
              have n0_ := Aside0.mk (Kd.R_below HO_275000.out hb)
              have n1_ := Aside0.mk (Kd.R_below HO_275001.out hb)
              have n2_ := Aside0.mk (Kd.R_below HO_282000.out hb)
              have n3_ := Aside0.mk (Kd.R_below HO_282001.out hb)
              have n4_ := Aside0.mk (Kd.R_below HO_295000.out hb)
              have n5_ := Aside0.mk (Kd.R_below HO_295001.out hb)
              have n6_ := Aside0.mk (blk_below BK253.out hb)
              have n7_ := Aside0.mk (blk_below BK254.out hb)
              have n8_ := Aside0.mk (blk_below BK274.out hb)
              have n9_ := Aside0.mk (blk_below BK281.out hb)
              have n10_ := Aside0.mk (blk_below BK294.out hb)
              have n11_ := Aside0.mk (below_step HB.out hb)
              have n12_ := Aside0.mk (hbox)
              have n13_ := Aside0.mk ((by rw [hg]; exact (below_size HB.out) : w.heap.size ≤ gb329))
              have n14_ := Aside0.mk ((by rw [hg]; exact (below_size HB.out) : w.heap.size ≤ gb329))
              have n15_ := Aside0.mk ((by rw [hg]; exact Nat.ne_of_lt (blk_lt BK253.out) : gb253 ≠ gb329))
              have n16_ := Aside0.mk ((by rw [hg]; exact Nat.ne_of_gt (blk_lt BK253.out) : gb329 ≠ gb253))
              have n17_ := Aside0.mk ((by rw [hg]; exact Nat.ne_of_lt (blk_lt BK254.out) : gb254 ≠ gb329))
              have n18_ := Aside0.mk ((by rw [hg]; exact Nat.ne_of_gt (blk_lt BK254.out) : gb329 ≠ gb254))
              have n19_ := Aside0.mk ((by rw [hg]; exact Nat.ne_of_lt (blk_lt BK274.out) : gb274 ≠ gb329))
              have n20_ := Aside0.mk ((by rw [hg]; exact Nat.ne_of_gt (blk_lt BK274.out) : gb329 ≠ gb274))
              have n21_ := Aside0.mk ((by rw [hg]; exact Nat.ne_of_lt (blk_lt BK281.out) : gb281 ≠ gb329))
              have n22_ := Aside0.mk ((by rw [hg]; exact Nat.ne_of_gt (blk_lt BK281.out) : gb329 ≠ gb281))
              have n23_ := Aside0.mk ((by rw [hg]; exact Nat.ne_of_lt (blk_lt BK294.out) : gb294 ≠ gb329))
              have n24_ := Aside0.mk ((by rw [hg]; exact Nat.ne_of_gt (blk_lt BK294.out) : gb329 ≠ gb294))
              clear HO_275000
              clear HO_275001
              clear HO_282000
              clear HO_282001
              clear HO_295000
              clear HO_295001
              clear BK253
              clear BK254
              clear BK274
              clear BK281
              clear BK294
              clear HB
              have HO_275000 := n0_
              have HO_275001 := n1_
              have HO_282000 := n2_
              have HO_282001 := n3_
              have HO_295000 := n4_
              have HO_295001 := n5_
              have BK253 := n6_
              have BK254 := n7_
              have BK274 := n8_
              have BK281 := n9_
              have BK294 := n10_
              have HB := n11_
              have BK329 := n12_
              have GW329 := n13_
              have GE329 := n14_
              have NB253_329 := n15_
              have NB329_253 := n16_
              have NB254_329 := n17_
              have NB329_254 := n18_
              have NB274_329 := n19_
              have NB329_274 := n20_
              have NB281_329 := n21_
              have NB329_281 := n22_
              have NB294_329 := n23_
              have NB329_294 := n24_
              clear n0_ n1_ n2_ n3_ n4_ n5_ n6_ n7_ n8_ n9_ n10_ n11_ n12_ n13_ n14_ n15_ n16_ n17_ n18_ n19_ n20_ n21_ n22_ n23_ n24_
              clear hb hbox hg
              refine hK.out _ _ ⟨(blk_cell BK253.out 0).trans rfl, (blk_cell BK253.out 1).trans rfl, (blk_cell BK253.out 2).trans rfl, (blk_cell BK253.out 3).trans rfl, (blk_cell BK253.out 4).trans rfl, (blk_cell BK253.out 5).trans rfl, (blk_cell BK254.out 0).trans rfl, (blk_cell BK254.out 1).trans rfl⟩ (fun hHeld => ?_)
              clear hK K
              refine norm_ (a' := ?_) ?_ ?_
              rotate_left
              ·show Act.put _ (some 12) _ = _
               simp only [Act.put, List.setIfInBounds_toArray, List.set_cons_zero, List.set_cons_succ, i64_w, i32_w]
               rfl
              refine one_ (i := 1) (N := some 61) #[true, true, true, false, false, true, false] rfl rfl (by kernel_rfl) (by decide) (fun K hK => ?_)
              refine goes_ Try.func21 (by kernel_rfl) rfl #[.agg #[.int .i64 a0_0, .int .i64 a0_1, .int .i64 a0_2, .int .i64 a0_3, .int .i64 a0_4, .int .i64 a0_5]] (by rfl) rfl rfl (by (try simp only [List.map_toArray, List.map_cons, List.map_nil]); first | done | rfl | (simp only [List.length_drop, List.length_take]; rfl)) ?_
              with_reducible refine (laws_toMat.calls a0_0 a0_1 a0_2 a0_3 a0_4 a0_5 t311 t312 t313 t314 t315 t316 _ A100.out).mono ?_
              rintro e w151 ⟨rfl, hb⟩
              refine ⟨_, rfl, ?_⟩
              have n0_ := Aside0.mk (Kd.R_below HO_275000.out hb)
              have n1_ := Aside0.mk (Kd.R_below HO_275001.out hb)
              have n2_ := Aside0.mk (Kd.R_below HO_282000.out hb)
              have n3_ := Aside0.mk (Kd.R_below HO_282001.out hb)
              have n4_ := Aside0.mk (Kd.R_below HO_295000.out hb)
              have n5_ := Aside0.mk (Kd.R_below HO_295001.out hb)
              have n6_ := Aside0.mk (blk_below BK253.out hb)
              have n7_ := Aside0.mk (blk_below BK254.out hb)
              have n8_ := Aside0.mk (blk_below BK274.out hb)
              have n9_ := Aside0.mk (blk_below BK281.out hb)
              have n10_ := Aside0.mk (blk_below BK294.out hb)
              have n11_ := Aside0.mk (blk_below BK329.out hb)
              have n12_ := Aside0.mk (below_step HB.out hb)
              clear HO_275000
              clear HO_275001
              clear HO_282000
              clear HO_282001
              clear HO_295000
              clear HO_295001
              clear BK253
              clear BK254
              clear BK274
              clear BK281
              clear BK294
              clear BK329
              clear HB
              have HO_275000 := n0_
              have HO_275001 := n1_
              have HO_282000 := n2_
              have HO_282001 := n3_
              have HO_295000 := n4_
              have HO_295001 := n5_
              have BK253 := n6_
              have BK254 := n7_
              have BK274 := n8_
              have BK281 := n9_
              have BK294 := n10_
              have BK329 := n11_
              have HB := n12_
              clear n0_ n1_ n2_ n3_ n4_ n5_ n6_ n7_ n8_ n9_ n10_ n11_ n12_
              (try clear hb)
              (try clear hb2)
              (try clear hk)
              (try clear hi)
              refine hK.out _ _ ⟨(blk_cell BK253.out 0).trans rfl, (blk_cell BK253.out 1).trans rfl, (blk_cell BK253.out 2).trans rfl, (blk_cell BK253.out 3).trans rfl, (blk_cell BK253.out 4).trans rfl, (blk_cell BK253.out 5).trans rfl, (blk_cell BK254.out 0).trans rfl, (blk_cell BK254.out 1).trans rfl⟩ (fun hHeld => ?_)
              clear hK K
              refine norm_ (a' := ?_) ?_ ?_
              rotate_left
              ·show Act.put _ (some 61) _ = _
               simp only [Act.put, List.setIfInBounds_toArray, List.set_cons_zero, List.set_cons_succ, i64_w, i32_w]
               rfl
              refine one_ (i := 3) (N := some 63) #[true, true, true, true, false, true, false] rfl rfl (by kernel_rfl) (by decide) (fun K hK => ?_)
              refine goes_ Try.func44 (by kernel_rfl) rfl #[.agg #[.slice A1_0 l1_0.length c1_0, .slice A1_1 l1_1.length c1_1]] (by rfl) rfl rfl (by (try simp only [List.map_toArray, List.map_cons, List.map_nil]); first | done | rfl | (simp only [List.length_drop, List.length_take]; rfl)) ?_
              with_reducible refine (laws_toPath.calls kj21 _ _ l1_0 _ _ l1_1 t317 t320 _ ?side1 ?side2 ?side3 ?side4 A101.out).mono ?_
              (case side1 => exact (Kd.C_below HR1_0.out HB.out))
              (case side2 => exact HC1_0.out)
              (case side3 => exact (Kd.C_below HR1_1.out HB.out))
              (case side4 => exact HC1_1.out)
              rintro e w152 ⟨v318, v321, rfl, ho0, ho1, hb⟩
              refine ⟨_, rfl, ?_⟩
              have n0_ := Aside0.mk (Kd.R_elder' HO_275000.out (Kd.R_base ho0) hb)
              have n1_ := Aside0.mk (Kd.R_elder' HO_275001.out (Kd.R_base ho1) hb)
              have n2_ := Aside0.mk (Kd.R_elder' HO_282000.out (Kd.R_base ho0) hb)
              have n3_ := Aside0.mk (Kd.R_elder' HO_282001.out (Kd.R_base ho1) hb)
              have n4_ := Aside0.mk (Kd.R_elder' HO_295000.out (Kd.R_base ho0) hb)
              have n5_ := Aside0.mk (Kd.R_elder' HO_295001.out (Kd.R_base ho1) hb)
              have n6_ := Aside0.mk (Kd.R_lower (Kd.R_new' (Kd.R_new' (Kd.R_new' ho0 (Kd.R_lt HO_275000.out)) (Kd.R_lt HO_282000.out)) (Kd.R_lt HO_295000.out)) (below_size HB.out))
              have n7_ := Aside0.mk (Kd.R_lower (Kd.R_new' (Kd.R_new' (Kd.R_new' ho1 (Kd.R_lt HO_275001.out)) (Kd.R_lt HO_282001.out)) (Kd.R_lt HO_295001.out)) (below_size HB.out))
              have n8_ := Aside0.mk (blk_below BK253.out hb)
              have n9_ := Aside0.mk (blk_below BK254.out hb)
              have n10_ := Aside0.mk (blk_below BK274.out hb)
              have n11_ := Aside0.mk (blk_below BK281.out hb)
              have n12_ := Aside0.mk (blk_below BK294.out hb)
              have n13_ := Aside0.mk (blk_below BK329.out hb)
              have n14_ := Aside0.mk (below_step HB.out hb)
              clear HO_275000
              clear HO_275001
              clear HO_282000
              clear HO_282001
              clear HO_295000
              clear HO_295001
              clear BK253
              clear BK254
              clear BK274
              clear BK281
              clear BK294
              clear BK329
              clear HB
              have HO_275000 := n0_
              have HO_275001 := n1_
              have HO_282000 := n2_
              have HO_282001 := n3_
              have HO_295000 := n4_
              have HO_295001 := n5_
              have HO319 := n6_
              have HO322 := n7_
              have BK253 := n8_
              have BK254 := n9_
              have BK274 := n10_
              have BK281 := n11_
              have BK294 := n12_
              have BK329 := n13_
              have HB := n14_
              clear n0_ n1_ n2_ n3_ n4_ n5_ n6_ n7_ n8_ n9_ n10_ n11_ n12_ n13_ n14_
              (try clear hb)
              (try clear hb2)
              (try clear hk)
              (try clear hi)
              (try clear ho0)
              (try clear ho1)
              obtain ⟨Ao153, co153, eo153⟩ := Kd.R_slice HO319.out
              (first | subst eo153 | (injection eo153 with f1_ f2_ f3_; have f4_ := f1_.symm; have f5_ := f3_.symm; clear f1_ f2_ f3_; subst f4_; subst f5_))
              obtain ⟨Ao154, co154, eo154⟩ := Kd.R_slice HO322.out
              (first | subst eo154 | (injection eo154 with f1_ f2_ f3_; have f4_ := f1_.symm; have f5_ := f3_.symm; clear f1_ f2_ f3_; subst f4_; subst f5_))
              refine hK.out _ _ ⟨(blk_cell BK253.out 0).trans rfl, (blk_cell BK253.out 1).trans rfl, (blk_cell BK253.out 2).trans rfl, (blk_cell BK253.out 3).trans rfl, (blk_cell BK253.out 4).trans rfl, (blk_cell BK253.out 5).trans rfl, (blk_cell BK254.out 0).trans rfl, (blk_cell BK254.out 1).trans rfl⟩ (fun hHeld => ?_)
              clear hK K
              refine norm_ (a' := ?_) ?_ ?_
              rotate_left
              ·show Act.put _ (some 63) _ = _
               simp only [Act.put, List.setIfInBounds_toArray, List.set_cons_zero, List.set_cons_succ, i64_w, i32_w]
               rfl
              refine one_ (i := 4) (N := some 64) #[true, true, true, true, true, true, false] rfl rfl (by kernel_rfl) (by decide) (fun K hK => ?_)
              refine goes_ Try.func55 (by kernel_rfl) rfl #[.agg #[.int .i64 t311, .int .i64 t312, .int .i64 t313, .int .i64 t314, .int .i64 t315, .int .i64 t316], .agg #[.slice Ao153 t317.length co153, .slice Ao154 t320.length co154]] (by rfl) rfl rfl (by (try simp only [List.map_toArray, List.map_cons, List.map_nil]); first | done | rfl | (simp only [List.length_drop, List.length_take]; rfl)) ?_
              with_reducible refine (impl_MovePath.calls kj21 t311 t312 t313 t314 t315 t316 _ _ t317 _ _ t320 t323 t326 _ ?side1 ?side2 ?side3 ?side4 A102.out).mono ?_
              (case side1 => exact (Kd.R_reads' HO319.out).2.2)
              (case side2 => exact (Kd.R_reads' HO319.out).2.1)
              (case side3 => exact (Kd.R_reads' HO322.out).2.2)
              (case side4 => exact (Kd.R_reads' HO322.out).2.1)
              rintro e w155 ⟨v324, v327, rfl, ho0, ho1, hb⟩
              refine ⟨_, rfl, ?_⟩
              have n0_ := Aside0.mk (Kd.R_elder' HO_275000.out (Kd.R_base ho0) hb)
              have n1_ := Aside0.mk (Kd.R_elder' HO_275001.out (Kd.R_base ho1) hb)
              have n2_ := Aside0.mk (Kd.R_elder' HO_282000.out (Kd.R_base ho0) hb)
              have n3_ := Aside0.mk (Kd.R_elder' HO_282001.out (Kd.R_base ho1) hb)
              have n4_ := Aside0.mk (Kd.R_elder' HO_295000.out (Kd.R_base ho0) hb)
              have n5_ := Aside0.mk (Kd.R_elder' HO_295001.out (Kd.R_base ho1) hb)
              have n6_ := Aside0.mk (Kd.R_elder' HO319.out (Kd.R_base ho0) hb)
              have n7_ := Aside0.mk (Kd.R_elder' HO322.out (Kd.R_base ho1) hb)
              have n8_ := Aside0.mk (Kd.R_lower (Kd.R_new' (Kd.R_new' (Kd.R_new' (Kd.R_new' ho0 (Kd.R_lt HO_275000.out)) (Kd.R_lt HO_282000.out)) (Kd.R_lt HO_295000.out)) (Kd.R_lt HO319.out)) (below_size HB.out))
              have n9_ := Aside0.mk (Kd.R_lower (Kd.R_new' (Kd.R_new' (Kd.R_new' (Kd.R_new' ho1 (Kd.R_lt HO_275001.out)) (Kd.R_lt HO_282001.out)) (Kd.R_lt HO_295001.out)) (Kd.R_lt HO322.out)) (below_size HB.out))
              have n10_ := Aside0.mk (blk_below BK253.out hb)
              have n11_ := Aside0.mk (blk_below BK254.out hb)
              have n12_ := Aside0.mk (blk_below BK274.out hb)
              have n13_ := Aside0.mk (blk_below BK281.out hb)
              have n14_ := Aside0.mk (blk_below BK294.out hb)
              have n15_ := Aside0.mk (blk_below BK329.out hb)
              have n16_ := Aside0.mk (below_step HB.out hb)
              clear HO_275000
              clear HO_275001
              clear HO_282000
              clear HO_282001
              clear HO_295000
              clear HO_295001
              clear HO319
              clear HO322
              clear BK253
              clear BK254
              clear BK274
              clear BK281
              clear BK294
              clear BK329
              clear HB
              have HO_275000 := n0_
              have HO_275001 := n1_
              have HO_282000 := n2_
              have HO_282001 := n3_
              have HO_295000 := n4_
              have HO_295001 := n5_
              have HO319 := n6_
              have HO322 := n7_
              have HO325 := n8_
              have HO328 := n9_
              have BK253 := n10_
              have BK254 := n11_
              have BK274 := n12_
              have BK281 := n13_
              have BK294 := n14_
              have BK329 := n15_
              have HB := n16_
              clear n0_ n1_ n2_ n3_ n4_ n5_ n6_ n7_ n8_ n9_ n10_ n11_ n12_ n13_ n14_ n15_ n16_
              (try clear hb)
              (try clear hb2)
              (try clear hk)
              (try clear hi)
              (try clear ho0)
              (try clear ho1)
              refine hK.out _ _ ⟨(blk_cell BK253.out 0).trans rfl, (blk_cell BK253.out 1).trans rfl, (blk_cell BK253.out 2).trans rfl, (blk_cell BK253.out 3).trans rfl, (blk_cell BK253.out 4).trans rfl, (blk_cell BK253.out 5).trans rfl, (blk_cell BK254.out 0).trans rfl, (blk_cell BK254.out 1).trans rfl⟩ (fun hHeld => ?_)
              clear hK K
              refine norm_ (a' := ?_) ?_ ?_
              rotate_left
              ·show Act.put _ (some 64) _ = _
               simp only [Act.put, List.setIfInBounds_toArray, List.set_cons_zero, List.set_cons_succ, i64_w, i32_w]
               rfl
              exact norm_ (by simp only [putAll, Act.put, List.setIfInBounds_toArray, List.set_cons_zero, List.set_cons_succ]) (hCont (.slice Ao153 t317.length co153, .slice Ao154 t320.length co154, v324, v327, gb329) _ ⟨hHeld, (Kd.R_mono HO319.out (fun _ hk => ⟨hk.2, ⟨hk.1.1.1.2, ⟨hk.1.1.2, hk.1.2⟩⟩⟩)), (Kd.R_mono HO322.out (fun _ hk => ⟨hk.2, ⟨hk.1.1.1.2, ⟨hk.1.1.2, hk.1.2⟩⟩⟩)), (Kd.R_mono HO325.out (fun _ hk => ⟨hk.2, ⟨hk.1.1.1.2, ⟨hk.1.1.2, hk.1.2⟩⟩⟩)), (Kd.R_mono HO328.out (fun _ hk => ⟨hk.2, ⟨hk.1.1.1.2, ⟨hk.1.1.2, hk.1.2⟩⟩⟩)), (Kd.R_mono HO_275000.out (fun _ hk => ⟨hk.1.2, ⟨hk.2, ⟨hk.1.1.1, hk.1.1.2⟩⟩⟩)), (Kd.R_mono HO_275001.out (fun _ hk => ⟨hk.1.2, ⟨hk.2, ⟨hk.1.1.1, hk.1.1.2⟩⟩⟩)), (Kd.R_mono HO_282000.out (fun _ hk => ⟨hk.1.2, ⟨hk.2, ⟨hk.1.1.1, hk.1.1.2⟩⟩⟩)), (Kd.R_mono HO_282001.out (fun _ hk => ⟨hk.1.2, ⟨hk.2, ⟨hk.1.1.1, hk.1.1.2⟩⟩⟩)), (Kd.R_mono HO_295000.out (fun _ hk => ⟨hk.1.2, ⟨hk.2, ⟨hk.1.1.1, hk.1.1.2⟩⟩⟩)), (Kd.R_mono HO_295001.out (fun _ hk => ⟨hk.1.2, ⟨hk.2, ⟨hk.1.1.1, hk.1.1.2⟩⟩⟩)), BK253.out, BK254.out, BK274.out, BK281.out, BK294.out, BK329.out, GW329.out, GE329.out, NB253_329.out, NB329_253.out, NB254_329.out, NB329_254.out, NB274_329.out, NB329_274.out, NB281_329.out, NB329_281.out, NB294_329.out, NB329_294.out, HB.out⟩)
            rintro ⟨v318, v321, v324, v327, gb329⟩ w156 ⟨hS_, h0_, h1_, h2_, h3_, h4_, h5_, h6_, h7_, h8_, h9_, h10_, h11_, h12_, h13_, h14_, h15_, h16_, h17_, h18_, h19_, h20_, h21_, h22_, h23_, h24_, h25_, h26_, h27_, h28_⟩
            have n0_ : Aside0 (Kd.R (Kd.int .i64) 3 w156 w.heap.size (fun k_ => some k_ ≠ (v324 : Value).ownBlock ∧ some k_ ≠ (.slice Ao36 t268.length co36 : Value).ownBlock ∧ some k_ ≠ (.slice Ao44 t304.length co44 : Value).ownBlock ∧ some k_ ≠ (.slice Ao56 t288.length co56 : Value).ownBlock) v318 t317) := ⟨h0_⟩
            have n1_ : Aside0 (Kd.R k24 24 w156 w.heap.size (fun k_ => some k_ ≠ (v327 : Value).ownBlock ∧ some k_ ≠ (.slice Ao38 t271.length co38 : Value).ownBlock ∧ some k_ ≠ (.slice Ao49 t305.length co49 : Value).ownBlock ∧ some k_ ≠ (.slice Ao58 t291.length co58 : Value).ownBlock) v321 t320) := ⟨h1_⟩
            have n2_ : Aside0 (Kd.R (Kd.int .i64) 3 w156 w.heap.size (fun k_ => some k_ ≠ (v318 : Value).ownBlock ∧ some k_ ≠ (.slice Ao36 t268.length co36 : Value).ownBlock ∧ some k_ ≠ (.slice Ao44 t304.length co44 : Value).ownBlock ∧ some k_ ≠ (.slice Ao56 t288.length co56 : Value).ownBlock) v324 t323) := ⟨h2_⟩
            have n3_ : Aside0 (Kd.R k24 24 w156 w.heap.size (fun k_ => some k_ ≠ (v321 : Value).ownBlock ∧ some k_ ≠ (.slice Ao38 t271.length co38 : Value).ownBlock ∧ some k_ ≠ (.slice Ao49 t305.length co49 : Value).ownBlock ∧ some k_ ≠ (.slice Ao58 t291.length co58 : Value).ownBlock) v327 t326) := ⟨h3_⟩
            have n4_ : Aside0 (Kd.R (Kd.int .i64) 3 w156 w.heap.size (fun k_ => some k_ ≠ (v318 : Value).ownBlock ∧ some k_ ≠ (v324 : Value).ownBlock ∧ some k_ ≠ (.slice Ao44 t304.length co44 : Value).ownBlock ∧ some k_ ≠ (.slice Ao56 t288.length co56 : Value).ownBlock) (.slice Ao36 t268.length co36) t268) := ⟨h4_⟩
            have n5_ : Aside0 (Kd.R k24 24 w156 w.heap.size (fun k_ => some k_ ≠ (v321 : Value).ownBlock ∧ some k_ ≠ (v327 : Value).ownBlock ∧ some k_ ≠ (.slice Ao49 t305.length co49 : Value).ownBlock ∧ some k_ ≠ (.slice Ao58 t291.length co58 : Value).ownBlock) (.slice Ao38 t271.length co38) t271) := ⟨h5_⟩
            have n6_ : Aside0 (Kd.R (Kd.int .i64) 3 w156 w.heap.size (fun k_ => some k_ ≠ (v318 : Value).ownBlock ∧ some k_ ≠ (v324 : Value).ownBlock ∧ some k_ ≠ (.slice Ao36 t268.length co36 : Value).ownBlock ∧ some k_ ≠ (.slice Ao56 t288.length co56 : Value).ownBlock) (.slice Ao44 t304.length co44) t304) := ⟨h6_⟩
            have n7_ : Aside0 (Kd.R k24 24 w156 w.heap.size (fun k_ => some k_ ≠ (v321 : Value).ownBlock ∧ some k_ ≠ (v327 : Value).ownBlock ∧ some k_ ≠ (.slice Ao38 t271.length co38 : Value).ownBlock ∧ some k_ ≠ (.slice Ao58 t291.length co58 : Value).ownBlock) (.slice Ao49 t305.length co49) t305) := ⟨h7_⟩
            have n8_ : Aside0 (Kd.R (Kd.int .i64) 3 w156 w.heap.size (fun k_ => some k_ ≠ (v318 : Value).ownBlock ∧ some k_ ≠ (v324 : Value).ownBlock ∧ some k_ ≠ (.slice Ao36 t268.length co36 : Value).ownBlock ∧ some k_ ≠ (.slice Ao44 t304.length co44 : Value).ownBlock) (.slice Ao56 t288.length co56) t308) := ⟨h8_⟩
            have n9_ : Aside0 (Kd.R k24 24 w156 w.heap.size (fun k_ => some k_ ≠ (v321 : Value).ownBlock ∧ some k_ ≠ (v327 : Value).ownBlock ∧ some k_ ≠ (.slice Ao38 t271.length co38 : Value).ownBlock ∧ some k_ ≠ (.slice Ao49 t305.length co49 : Value).ownBlock) (.slice Ao58 t291.length co58) t309) := ⟨h9_⟩
            have n10_ : Aside0 (w156.heap[gb253]? = some (.cells #[.int .i64 a0_0, .int .i64 a0_1, .int .i64 a0_2, .int .i64 a0_3, .int .i64 a0_4, .int .i64 a0_5] 32 (0, 0))) := ⟨h10_⟩
            have n11_ : Aside0 (w156.heap[gb254]? = some (.cells #[.slice A1_0 l1_0.length c1_0, .slice A1_1 l1_1.length c1_1] 64 (0, 0))) := ⟨h11_⟩
            have n12_ : Aside0 (w156.heap[gb274]? = some (.cells #[.slice Ao36 t268.length co36, .slice Ao38 t271.length co38] 50 (0, 0))) := ⟨h12_⟩
            have n13_ : Aside0 (w156.heap[gb281]? = some (.cells #[.slice Ao44 t304.length co44, .slice Ao49 t305.length co49] 50 (0, 0))) := ⟨h13_⟩
            have n14_ : Aside0 (w156.heap[gb294]? = some (.cells #[.slice Ao56 t288.length co56, .slice Ao58 t291.length co58] 50 (0, 0))) := ⟨h14_⟩
            have n15_ : Aside0 (w156.heap[gb329]? = some (.cells #[.slice none 0 0, .slice none 0 0] 50 (0, 0))) := ⟨h15_⟩
            have n16_ : Aside0 (w.heap.size ≤ gb329) := ⟨h16_⟩
            have n17_ : Aside0 (w.heap.size ≤ gb329) := ⟨h17_⟩
            have n18_ : Aside0 (gb253 ≠ gb329) := ⟨h18_⟩
            have n19_ : Aside0 (gb329 ≠ gb253) := ⟨h19_⟩
            have n20_ : Aside0 (gb254 ≠ gb329) := ⟨h20_⟩
            have n21_ : Aside0 (gb329 ≠ gb254) := ⟨h21_⟩
            have n22_ : Aside0 (gb274 ≠ gb329) := ⟨h22_⟩
            have n23_ : Aside0 (gb329 ≠ gb274) := ⟨h23_⟩
            have n24_ : Aside0 (gb281 ≠ gb329) := ⟨h24_⟩
            have n25_ : Aside0 (gb329 ≠ gb281) := ⟨h25_⟩
            have n26_ : Aside0 (gb294 ≠ gb329) := ⟨h26_⟩
            have n27_ : Aside0 (gb329 ≠ gb294) := ⟨h27_⟩
            have n28_ : Aside0 (Below w.heap.size w w156) := ⟨h28_⟩
            clear HO_275000
            clear HO_275001
            clear HO_282000
            clear HO_282001
            clear HO_295000
            clear HO_295001
            clear BK253
            clear BK254
            clear BK274
            clear BK281
            clear BK294
            clear HB
            clear h0_ h1_ h2_ h3_ h4_ h5_ h6_ h7_ h8_ h9_ h10_ h11_ h12_ h13_ h14_ h15_ h16_ h17_ h18_ h19_ h20_ h21_ h22_ h23_ h24_ h25_ h26_ h27_ h28_
            have HO319 := n0_
            have HO322 := n1_
            have HO325 := n2_
            have HO328 := n3_
            have HO_275000 := n4_
            have HO_275001 := n5_
            have HO_282000 := n6_
            have HO_282001 := n7_
            have HO_295000 := n8_
            have HO_295001 := n9_
            have BK253 := n10_
            have BK254 := n11_
            have BK274 := n12_
            have BK281 := n13_
            have BK294 := n14_
            have BK329 := n15_
            have GW329 := n16_
            have GE329 := n17_
            have NB253_329 := n18_
            have NB329_253 := n19_
            have NB254_329 := n20_
            have NB329_254 := n21_
            have NB274_329 := n22_
            have NB329_274 := n23_
            have NB281_329 := n24_
            have NB329_281 := n25_
            have NB294_329 := n26_
            have NB329_294 := n27_
            have HB := n28_
            clear n0_ n1_ n2_ n3_ n4_ n5_ n6_ n7_ n8_ n9_ n10_ n11_ n12_ n13_ n14_ n15_ n16_ n17_ n18_ n19_ n20_ n21_ n22_ n23_ n24_ n25_ n26_ n27_ n28_
            have hHeld : w156.cell? ⟨gb253, 0, none⟩ = some (.int .i64 a0_0) ∧ w156.cell? ⟨gb253, 1, none⟩ = some (.int .i64 a0_1) ∧ w156.cell? ⟨gb253, 2, none⟩ = some (.int .i64 a0_2) ∧ w156.cell? ⟨gb253, 3, none⟩ = some (.int .i64 a0_3) ∧ w156.cell? ⟨gb253, 4, none⟩ = some (.int .i64 a0_4) ∧ w156.cell? ⟨gb253, 5, none⟩ = some (.int .i64 a0_5) ∧ w156.cell? ⟨gb254, 0, none⟩ = some (.slice A1_0 l1_0.length c1_0) ∧ w156.cell? ⟨gb254, 1, none⟩ = some (.slice A1_1 l1_1.length c1_1) := hS_
            obtain ⟨Ao157, co157, eo157⟩ := Kd.R_slice HO325.out
            (first | subst eo157 | (injection eo157 with f1_ f2_ f3_; have f4_ := f1_.symm; have f5_ := f3_.symm; clear f1_ f2_ f3_; subst f4_; subst f5_))
            obtain ⟨Ao159, co159, eo159⟩ := Kd.R_slice HO328.out
            (first | subst eo159 | (injection eo159 with f1_ f2_ f3_; have f4_ := f1_.symm; have f5_ := f3_.symm; clear f1_ f2_ f3_; subst f4_; subst f5_))
            refine norm_ (a' := ?_) ?_ ?_
            rotate_left
            ·simp only [putAll, Act.put, List.setIfInBounds_toArray, List.set_cons_zero, List.set_cons_succ]
             rfl
            refine one_ (i := 6) (N := none) #[true, true, true, true, true, true, true] rfl rfl (by kernel_rfl) (by decide) (fun K hK => ?_)
            have hs158 : w156.cell? ⟨gb329, 0, none⟩ = some (.slice none 0 0) := (blk_cell BK329.out 0).trans rfl
            have hfs158 := blk_frozen BK329.out 0
            have hns158_0 := NB253_329.out
            have hns158_1 := NB254_329.out
            have hns158_2 := NB274_329.out
            have hns158_3 := NB281_329.out
            have hns158_4 := NB294_329.out
            have hms158_0 := NB329_253.out
            have hms158_1 := NB329_254.out
            have hms158_2 := NB329_274.out
            have hms158_3 := NB329_281.out
            have hms158_4 := NB329_294.out
            have hs160 : w156.cell? ⟨gb329, 1, none⟩ = some (.slice none 0 0) := (blk_cell BK329.out 1).trans rfl
            have hfs160 := blk_frozen BK329.out 1
            have hns160_0 := NB253_329.out
            have hns160_1 := NB254_329.out
            have hns160_2 := NB274_329.out
            have hns160_3 := NB281_329.out
            have hns160_4 := NB294_329.out
            have hms160_0 := NB329_253.out
            have hms160_1 := NB329_254.out
            have hms160_2 := NB329_274.out
            have hms160_3 := NB329_281.out
            have hms160_4 := NB329_294.out
            refine skip_ (w1 := ?_) (by rfl) rfl ?_ ?_
            rotate_left
            ·go_simp
             rfl
            refine hK.out _ _ ⟨((cell_far (p := ⟨gb329, _, none⟩) NB253_329.out _).trans (((cell_far (p := ⟨gb329, _, none⟩) NB253_329.out _).trans (hHeld.1)))), ((cell_far (p := ⟨gb329, _, none⟩) NB253_329.out _).trans (((cell_far (p := ⟨gb329, _, none⟩) NB253_329.out _).trans (hHeld.2.1)))), ((cell_far (p := ⟨gb329, _, none⟩) NB253_329.out _).trans (((cell_far (p := ⟨gb329, _, none⟩) NB253_329.out _).trans (hHeld.2.2.1)))), ((cell_far (p := ⟨gb329, _, none⟩) NB253_329.out _).trans (((cell_far (p := ⟨gb329, _, none⟩) NB253_329.out _).trans (hHeld.2.2.2.1)))), ((cell_far (p := ⟨gb329, _, none⟩) NB253_329.out _).trans (((cell_far (p := ⟨gb329, _, none⟩) NB253_329.out _).trans (hHeld.2.2.2.2.1)))), ((cell_far (p := ⟨gb329, _, none⟩) NB253_329.out _).trans (((cell_far (p := ⟨gb329, _, none⟩) NB253_329.out _).trans (hHeld.2.2.2.2.2.1)))), ((cell_far (p := ⟨gb329, _, none⟩) NB254_329.out _).trans (((cell_far (p := ⟨gb329, _, none⟩) NB254_329.out _).trans (hHeld.2.2.2.2.2.2.1)))), ((cell_far (p := ⟨gb329, _, none⟩) NB254_329.out _).trans (((cell_far (p := ⟨gb329, _, none⟩) NB254_329.out _).trans (hHeld.2.2.2.2.2.2.2))))⟩ (fun hHeld => ?_)
            clear hK K
            refine done_ (by kernel_rfl) ?_
            have hnb161 := NB329_253.out
            have hnc161 := NB253_329.out
            have hnb162 := NB329_254.out
            have hnc162 := NB254_329.out
            have hnb163 := NB329_274.out
            have hnc163 := NB274_329.out
            have hnb164 := NB329_281.out
            have hnc164 := NB281_329.out
            have hnb165 := NB329_294.out
            have hnc165 := NB294_329.out
            have hcz166_0 : w156.cell? ⟨gb329, 0, none⟩ = some (.slice none 0 0) := (blk_cell BK329.out 0).trans rfl
            have hcz166_1 : w156.cell? ⟨gb329, 1, none⟩ = some (.slice none 0 0) := (blk_cell BK329.out 1).trans rfl
            have hfz166_0 := blk_frozen BK329.out 0
            have hfz166_1 := blk_frozen BK329.out 1
            have hnb167 := NB274_253.out
            have hnc167 := NB253_274.out
            have hnb168 := NB274_254.out
            have hnc168 := NB254_274.out
            have hnb169 := NB274_281.out
            have hnc169 := NB281_274.out
            have hcz170_0 : w156.cell? ⟨gb274, 0, none⟩ = some (.slice Ao36 t268.length co36) := (blk_cell BK274.out 0).trans rfl
            have hcz170_1 : w156.cell? ⟨gb274, 1, none⟩ = some (.slice Ao38 t271.length co38) := (blk_cell BK274.out 1).trans rfl
            have hfz170_0 := blk_frozen BK274.out 0
            have hfz170_1 := blk_frozen BK274.out 1
            try go_wp2_with (first | ((with_reducible refine gate_callee (f := 32) rfl ?_); refine goesL_ (some 67) rfl rfl Try.func32 (by kernel_rfl) rfl #[.agg #[.slice Ao157 t323.length co157, .slice Ao159 t326.length co159], .agg #[.slice Ao36 t268.length co36, .slice Ao38 t271.length co38]] rfl (by (try simp only [List.map_toArray, List.map_cons, List.map_nil]); first | done | rfl | (simp only [List.length_drop, List.length_take]; rfl)) ?_; (with_reducible refine (laws_eqPath.calls kj21 _ _ t323 _ _ t326 _ _ t268 _ _ t271 true _ ?side1 ?side2 ?side3 ?side4 ?side5 ?side6 ?side7 ?side8 A103.out).mono ?_); (case side1 => refine (Kd.R_reads' (e := 3) (base := w.heap.size) (ok := fun k_ => (some k_ ≠ (v318 : Value).ownBlock ∧ (some k_ ≠ (.slice Ao36 t268.length co36 : Value).ownBlock ∧ (some k_ ≠ (.slice Ao44 t304.length co44 : Value).ownBlock ∧ some k_ ≠ (.slice Ao56 t288.length co56 : Value).ownBlock)))) (n := t323.length) (c := co157) ?_).2.2; exact (by (with_reducible repeat (first | apply Kd.R_alloc | apply Kd.R_drewN | apply Kd.R_drew)); exact (Kd.R_mono (Kd.R_far (p := ⟨gb329, 1, none⟩) (Kd.R_far (p := ⟨gb329, 0, none⟩) (Kd.R_types HO325.out BK329.out (by decide)) (fun _ hk => hk.2) (.slice Ao157 t323.length co157)) (fun _ hk => hk.2) (.slice Ao159 t326.length co159)) (fun _ h_ => h_.1)))); (case side2 => exact (Kd.R_reads' HO325.out).2.1); (case side3 => refine (Kd.R_reads' (e := 24) (base := w.heap.size) (ok := fun k_ => (some k_ ≠ (v321 : Value).ownBlock ∧ (some k_ ≠ (.slice Ao38 t271.length co38 : Value).ownBlock ∧ (some k_ ≠ (.slice Ao49 t305.length co49 : Value).ownBlock ∧ some k_ ≠ (.slice Ao58 t291.length co58 : Value).ownBlock)))) (n := t326.length) (c := co159) ?_).2.2; exact (by (with_reducible repeat (first | apply Kd.R_alloc | apply Kd.R_drewN | apply Kd.R_drew)); exact (Kd.R_mono (Kd.R_far (p := ⟨gb329, 1, none⟩) (Kd.R_far (p := ⟨gb329, 0, none⟩) (Kd.R_types HO328.out BK329.out (by decide)) (fun _ hk => hk.2) (.slice Ao157 t323.length co157)) (fun _ hk => hk.2) (.slice Ao159 t326.length co159)) (fun _ h_ => h_.1)))); (case side4 => exact (Kd.R_reads' HO328.out).2.1); (case side5 => refine (Kd.R_reads' (e := 3) (base := w.heap.size) (ok := fun k_ => (some k_ ≠ (v318 : Value).ownBlock ∧ (some k_ ≠ (.slice Ao157 t323.length co157 : Value).ownBlock ∧ (some k_ ≠ (.slice Ao44 t304.length co44 : Value).ownBlock ∧ some k_ ≠ (.slice Ao56 t288.length co56 : Value).ownBlock)))) (n := t268.length) (c := co36) ?_).2.2; exact (by (with_reducible repeat (first | apply Kd.R_alloc | apply Kd.R_drewN | apply Kd.R_drew)); exact (Kd.R_mono (Kd.R_far (p := ⟨gb329, 1, none⟩) (Kd.R_far (p := ⟨gb329, 0, none⟩) (Kd.R_types HO_275000.out BK329.out (by decide)) (fun _ hk => hk.2) (.slice Ao157 t323.length co157)) (fun _ hk => hk.2) (.slice Ao159 t326.length co159)) (fun _ h_ => h_.1)))); (case side6 => exact (Kd.R_reads' HO_275000.out).2.1); (case side7 => refine (Kd.R_reads' (e := 24) (base := w.heap.size) (ok := fun k_ => (some k_ ≠ (v321 : Value).ownBlock ∧ (some k_ ≠ (.slice Ao159 t326.length co159 : Value).ownBlock ∧ (some k_ ≠ (.slice Ao49 t305.length co49 : Value).ownBlock ∧ some k_ ≠ (.slice Ao58 t291.length co58 : Value).ownBlock)))) (n := t271.length) (c := co38) ?_).2.2; exact (by (with_reducible repeat (first | apply Kd.R_alloc | apply Kd.R_drewN | apply Kd.R_drew)); exact (Kd.R_mono (Kd.R_far (p := ⟨gb329, 1, none⟩) (Kd.R_far (p := ⟨gb329, 0, none⟩) (Kd.R_types HO_275001.out BK329.out (by decide)) (fun _ hk => hk.2) (.slice Ao157 t323.length co157)) (fun _ hk => hk.2) (.slice Ao159 t326.length co159)) (fun _ h_ => h_.1)))); (case side8 => exact (Kd.R_reads' HO_275001.out).2.1); rintro e w171 ⟨rfl, hb⟩; refine ⟨_, rfl, ?_⟩; have n0_ := Aside0.mk (Kd.R_below (by (with_reducible repeat (first | apply Kd.R_alloc | apply Kd.R_drewN | apply Kd.R_drew)); exact (Kd.R_mono (Kd.R_far (p := ⟨gb329, 1, none⟩) (Kd.R_far (p := ⟨gb329, 0, none⟩) (Kd.R_types HO_275000.out BK329.out (by decide)) (fun _ hk => hk.2) (.slice Ao157 t323.length co157)) (fun _ hk => hk.2) (.slice Ao159 t326.length co159)) (fun _ h_ => h_.1))) hb); have n1_ := Aside0.mk (Kd.R_below (by (with_reducible repeat (first | apply Kd.R_alloc | apply Kd.R_drewN | apply Kd.R_drew)); exact (Kd.R_mono (Kd.R_far (p := ⟨gb329, 1, none⟩) (Kd.R_far (p := ⟨gb329, 0, none⟩) (Kd.R_types HO_275001.out BK329.out (by decide)) (fun _ hk => hk.2) (.slice Ao157 t323.length co157)) (fun _ hk => hk.2) (.slice Ao159 t326.length co159)) (fun _ h_ => h_.1))) hb); have n2_ := Aside0.mk (Kd.R_below (by (with_reducible repeat (first | apply Kd.R_alloc | apply Kd.R_drewN | apply Kd.R_drew)); exact (Kd.R_mono (Kd.R_far (p := ⟨gb329, 1, none⟩) (Kd.R_far (p := ⟨gb329, 0, none⟩) (Kd.R_types HO_282000.out BK329.out (by decide)) (fun _ hk => hk.2) (.slice Ao157 t323.length co157)) (fun _ hk => hk.2) (.slice Ao159 t326.length co159)) (fun _ h_ => h_.1))) hb); have n3_ := Aside0.mk (Kd.R_below (by (with_reducible repeat (first | apply Kd.R_alloc | apply Kd.R_drewN | apply Kd.R_drew)); exact (Kd.R_mono (Kd.R_far (p := ⟨gb329, 1, none⟩) (Kd.R_far (p := ⟨gb329, 0, none⟩) (Kd.R_types HO_282001.out BK329.out (by decide)) (fun _ hk => hk.2) (.slice Ao157 t323.length co157)) (fun _ hk => hk.2) (.slice Ao159 t326.length co159)) (fun _ h_ => h_.1))) hb); have n4_ := Aside0.mk (Kd.R_below (by (with_reducible repeat (first | apply Kd.R_alloc | apply Kd.R_drewN | apply Kd.R_drew)); exact (Kd.R_mono (Kd.R_far (p := ⟨gb329, 1, none⟩) (Kd.R_far (p := ⟨gb329, 0, none⟩) (Kd.R_types HO_295000.out BK329.out (by decide)) (fun _ hk => hk.2) (.slice Ao157 t323.length co157)) (fun _ hk => hk.2) (.slice Ao159 t326.length co159)) (fun _ h_ => h_.1))) hb); have n5_ := Aside0.mk (Kd.R_below (by (with_reducible repeat (first | apply Kd.R_alloc | apply Kd.R_drewN | apply Kd.R_drew)); exact (Kd.R_mono (Kd.R_far (p := ⟨gb329, 1, none⟩) (Kd.R_far (p := ⟨gb329, 0, none⟩) (Kd.R_types HO_295001.out BK329.out (by decide)) (fun _ hk => hk.2) (.slice Ao157 t323.length co157)) (fun _ hk => hk.2) (.slice Ao159 t326.length co159)) (fun _ h_ => h_.1))) hb); have n6_ := Aside0.mk (Kd.R_below (by (with_reducible repeat (first | apply Kd.R_alloc | apply Kd.R_drewN | apply Kd.R_drew)); exact (Kd.R_mono (Kd.R_far (p := ⟨gb329, 1, none⟩) (Kd.R_far (p := ⟨gb329, 0, none⟩) (Kd.R_types HO319.out BK329.out (by decide)) (fun _ hk => hk.2) (.slice Ao157 t323.length co157)) (fun _ hk => hk.2) (.slice Ao159 t326.length co159)) (fun _ h_ => h_.1))) hb); have n7_ := Aside0.mk (Kd.R_below (by (with_reducible repeat (first | apply Kd.R_alloc | apply Kd.R_drewN | apply Kd.R_drew)); exact (Kd.R_mono (Kd.R_far (p := ⟨gb329, 1, none⟩) (Kd.R_far (p := ⟨gb329, 0, none⟩) (Kd.R_types HO322.out BK329.out (by decide)) (fun _ hk => hk.2) (.slice Ao157 t323.length co157)) (fun _ hk => hk.2) (.slice Ao159 t326.length co159)) (fun _ h_ => h_.1))) hb); have n8_ := Aside0.mk (Kd.R_below (by (with_reducible repeat (first | apply Kd.R_alloc | apply Kd.R_drewN | apply Kd.R_drew)); exact (Kd.R_mono (Kd.R_far (p := ⟨gb329, 1, none⟩) (Kd.R_far (p := ⟨gb329, 0, none⟩) (Kd.R_types HO325.out BK329.out (by decide)) (fun _ hk => hk.2) (.slice Ao157 t323.length co157)) (fun _ hk => hk.2) (.slice Ao159 t326.length co159)) (fun _ h_ => h_.1))) hb); have n9_ := Aside0.mk (Kd.R_below (by (with_reducible repeat (first | apply Kd.R_alloc | apply Kd.R_drewN | apply Kd.R_drew)); exact (Kd.R_mono (Kd.R_far (p := ⟨gb329, 1, none⟩) (Kd.R_far (p := ⟨gb329, 0, none⟩) (Kd.R_types HO328.out BK329.out (by decide)) (fun _ hk => hk.2) (.slice Ao157 t323.length co157)) (fun _ hk => hk.2) (.slice Ao159 t326.length co159)) (fun _ h_ => h_.1))) hb); have n10_ := Aside0.mk (blk_below (g := gb253) (o := .cells #[.int .i64 a0_0, .int .i64 a0_1, .int .i64 a0_2, .int .i64 a0_3, .int .i64 a0_4, .int .i64 a0_5] 32 (0, 0)) (by (with_reducible repeat (first | refine blk_drewN ?_ _ | refine blk_drew ?_ | refine blk_alloc ?_ _)); refine blk_far ?_ NB253_329.out _; (with_reducible repeat (first | refine blk_drewN ?_ _ | refine blk_drew ?_ | refine blk_alloc ?_ _)); refine blk_far ?_ NB253_329.out _; (with_reducible repeat (first | refine blk_drewN ?_ _ | refine blk_drew ?_ | refine blk_alloc ?_ _)); exact BK253.out) hb); have n11_ := Aside0.mk (blk_below (g := gb254) (o := .cells #[.slice A1_0 l1_0.length c1_0, .slice A1_1 l1_1.length c1_1] 64 (0, 0)) (by (with_reducible repeat (first | refine blk_drewN ?_ _ | refine blk_drew ?_ | refine blk_alloc ?_ _)); refine blk_far ?_ NB254_329.out _; (with_reducible repeat (first | refine blk_drewN ?_ _ | refine blk_drew ?_ | refine blk_alloc ?_ _)); refine blk_far ?_ NB254_329.out _; (with_reducible repeat (first | refine blk_drewN ?_ _ | refine blk_drew ?_ | refine blk_alloc ?_ _)); exact BK254.out) hb); have n12_ := Aside0.mk (blk_below (g := gb274) (o := .cells #[.slice Ao36 t268.length co36, .slice Ao38 t271.length co38] 50 (0, 0)) (by (with_reducible repeat (first | refine blk_drewN ?_ _ | refine blk_drew ?_ | refine blk_alloc ?_ _)); refine blk_far ?_ NB274_329.out _; (with_reducible repeat (first | refine blk_drewN ?_ _ | refine blk_drew ?_ | refine blk_alloc ?_ _)); refine blk_far ?_ NB274_329.out _; (with_reducible repeat (first | refine blk_drewN ?_ _ | refine blk_drew ?_ | refine blk_alloc ?_ _)); exact BK274.out) hb); have n13_ := Aside0.mk (blk_below (g := gb281) (o := .cells #[.slice Ao44 t304.length co44, .slice Ao49 t305.length co49] 50 (0, 0)) (by (with_reducible repeat (first | refine blk_drewN ?_ _ | refine blk_drew ?_ | refine blk_alloc ?_ _)); refine blk_far ?_ NB281_329.out _; (with_reducible repeat (first | refine blk_drewN ?_ _ | refine blk_drew ?_ | refine blk_alloc ?_ _)); refine blk_far ?_ NB281_329.out _; (with_reducible repeat (first | refine blk_drewN ?_ _ | refine blk_drew ?_ | refine blk_alloc ?_ _)); exact BK281.out) hb); have n14_ := Aside0.mk (blk_below (g := gb294) (o := .cells #[.slice Ao56 t288.length co56, .slice Ao58 t291.length co58] 50 (0, 0)) (by (with_reducible repeat (first | refine blk_drewN ?_ _ | refine blk_drew ?_ | refine blk_alloc ?_ _)); refine blk_far ?_ NB294_329.out _; (with_reducible repeat (first | refine blk_drewN ?_ _ | refine blk_drew ?_ | refine blk_alloc ?_ _)); refine blk_far ?_ NB294_329.out _; (with_reducible repeat (first | refine blk_drewN ?_ _ | refine blk_drew ?_ | refine blk_alloc ?_ _)); exact BK294.out) hb); have n15_ := Aside0.mk (blk_below (g := gb329) (o := .cells #[.slice Ao157 t323.length co157, .slice Ao159 t326.length co159] 50 (0, 0)) (by (with_reducible repeat (first | refine blk_drewN ?_ _ | refine blk_drew ?_ | refine blk_alloc ?_ _)); refine blk_put (cs := #[.slice Ao157 t323.length co157, .slice none 0 0]) ?_ 1 _ rfl; (with_reducible repeat (first | refine blk_drewN ?_ _ | refine blk_drew ?_ | refine blk_alloc ?_ _)); refine blk_put (cs := #[.slice none 0 0, .slice none 0 0]) ?_ 0 _ rfl; (with_reducible repeat (first | refine blk_drewN ?_ _ | refine blk_drew ?_ | refine blk_alloc ?_ _)); exact BK329.out) hb); have n16_ := Aside0.mk (below_step (by repeat (first | (with_reducible first | exact HB.out | apply below_alloc | apply pw_below_drewN | apply below_drew1 | refine below_set ?_ GE253.out | refine below_set ?_ GE254.out | refine below_set ?_ GE274.out | refine below_set ?_ GE281.out | refine below_set ?_ GE294.out | refine below_set ?_ GE329.out) | exact HB.out)) hb); clear HO_275000; clear HO_275001; clear HO_282000; clear HO_282001; clear HO_295000; clear HO_295001; clear HO319; clear HO322; clear HO325; clear HO328; clear BK253; clear BK254; clear BK274; clear BK281; clear BK294; clear BK329; clear HB; have HO_275000 := n0_; have HO_275001 := n1_; have HO_282000 := n2_; have HO_282001 := n3_; have HO_295000 := n4_; have HO_295001 := n5_; have HO319 := n6_; have HO322 := n7_; have HO325 := n8_; have HO328 := n9_; have BK253 := n10_; have BK254 := n11_; have BK274 := n12_; have BK281 := n13_; have BK294 := n14_; have BK329 := n15_; have HB := n16_; clear n0_ n1_ n2_ n3_ n4_ n5_ n6_ n7_ n8_ n9_ n10_ n11_ n12_ n13_ n14_ n15_ n16_; (try clear hb); (try clear hb2); (try clear hk); (try clear hi); have hcz172_0 : w171.cell? ⟨gb294, 0, none⟩ = some (.slice Ao56 t288.length co56) := (blk_cell BK294.out 0).trans rfl; have hcz172_1 : w171.cell? ⟨gb294, 1, none⟩ = some (.slice Ao58 t291.length co58) := (blk_cell BK294.out 1).trans rfl; have hfz172_0 := blk_frozen BK294.out 0; have hfz172_1 := blk_frozen BK294.out 1) | ((with_reducible refine gate_callee (f := 34) rfl ?_); refine goesL_ (some 71) rfl rfl Try.func34 (by kernel_rfl) rfl #[.agg #[.slice Ao56 t308.length co56, .slice Ao58 t309.length co58], .int .i64 1] rfl (by (try simp only [List.map_toArray, List.map_cons, List.map_nil]); first | done | (rw [show t308.length = t288.length from (Kd.R_reads' HO_295000.out).1.symm, show t309.length = t291.length from (Kd.R_reads' HO_295001.out).1.symm] <;> rfl) | rfl | (simp only [List.length_drop, List.length_take]; rfl)) ?_; (with_reducible refine (laws_heldPath.calls kj21 _ _ t308 _ _ t309 1 t331 _ ?side1 ?side2 ?side3 ?side4 A105.out).mono ?_); (case side1 => repeat (first | exact (Kd.R_reads' HO_295000.out).2.2 | (with_reducible refine Kd.C_alloc ?_ _) | (with_reducible refine Kd.C_drewN ?_ _) | (with_reducible refine Kd.C_drew ?_))); (case side2 => rw [show t308.length = t288.length from (Kd.R_reads' HO_295000.out).1.symm]; exact (Kd.R_reads' HO_295000.out).2.1); (case side3 => repeat (first | exact (Kd.R_reads' HO_295001.out).2.2 | (with_reducible refine Kd.C_alloc ?_ _) | (with_reducible refine Kd.C_drewN ?_ _) | (with_reducible refine Kd.C_drew ?_))); (case side4 => rw [show t309.length = t291.length from (Kd.R_reads' HO_295001.out).1.symm]; exact (Kd.R_reads' HO_295001.out).2.1); rintro e w173 ⟨rfl, hb⟩; refine ⟨_, rfl, ?_⟩; have n0_ := Aside0.mk (Kd.R_below (by (with_reducible repeat (first | apply Kd.R_alloc | apply Kd.R_drewN | apply Kd.R_drew)); exact HO_275000.out) hb); have n1_ := Aside0.mk (Kd.R_below (by (with_reducible repeat (first | apply Kd.R_alloc | apply Kd.R_drewN | apply Kd.R_drew)); exact HO_275001.out) hb); have n2_ := Aside0.mk (Kd.R_below (by (with_reducible repeat (first | apply Kd.R_alloc | apply Kd.R_drewN | apply Kd.R_drew)); exact HO_282000.out) hb); have n3_ := Aside0.mk (Kd.R_below (by (with_reducible repeat (first | apply Kd.R_alloc | apply Kd.R_drewN | apply Kd.R_drew)); exact HO_282001.out) hb); have n4_ := Aside0.mk (Kd.R_below (by (with_reducible repeat (first | apply Kd.R_alloc | apply Kd.R_drewN | apply Kd.R_drew)); exact HO_295000.out) hb); have n5_ := Aside0.mk (Kd.R_below (by (with_reducible repeat (first | apply Kd.R_alloc | apply Kd.R_drewN | apply Kd.R_drew)); exact HO_295001.out) hb); have n6_ := Aside0.mk (Kd.R_below (by (with_reducible repeat (first | apply Kd.R_alloc | apply Kd.R_drewN | apply Kd.R_drew)); exact HO319.out) hb); have n7_ := Aside0.mk (Kd.R_below (by (with_reducible repeat (first | apply Kd.R_alloc | apply Kd.R_drewN | apply Kd.R_drew)); exact HO322.out) hb); have n8_ := Aside0.mk (Kd.R_below (by (with_reducible repeat (first | apply Kd.R_alloc | apply Kd.R_drewN | apply Kd.R_drew)); exact HO325.out) hb); have n9_ := Aside0.mk (Kd.R_below (by (with_reducible repeat (first | apply Kd.R_alloc | apply Kd.R_drewN | apply Kd.R_drew)); exact HO328.out) hb); have n10_ := Aside0.mk (blk_below (g := gb253) (o := .cells #[.int .i64 a0_0, .int .i64 a0_1, .int .i64 a0_2, .int .i64 a0_3, .int .i64 a0_4, .int .i64 a0_5] 32 (0, 0)) (by exact BK253.out) hb); have n11_ := Aside0.mk (blk_below (g := gb254) (o := .cells #[.slice A1_0 l1_0.length c1_0, .slice A1_1 l1_1.length c1_1] 64 (0, 0)) (by exact BK254.out) hb); have n12_ := Aside0.mk (blk_below (g := gb274) (o := .cells #[.slice Ao36 t268.length co36, .slice Ao38 t271.length co38] 50 (0, 0)) (by exact BK274.out) hb); have n13_ := Aside0.mk (blk_below (g := gb281) (o := .cells #[.slice Ao44 t304.length co44, .slice Ao49 t305.length co49] 50 (0, 0)) (by exact BK281.out) hb); have n14_ := Aside0.mk (blk_below (g := gb294) (o := .cells #[.slice Ao56 t288.length co56, .slice Ao58 t291.length co58] 50 (0, 0)) (by exact BK294.out) hb); have n15_ := Aside0.mk (blk_below (g := gb329) (o := .cells #[.slice Ao157 t323.length co157, .slice Ao159 t326.length co159] 50 (0, 0)) (by exact BK329.out) hb); have n16_ := Aside0.mk (below_step (by repeat (first | (with_reducible first | exact HB.out | apply below_alloc | apply pw_below_drewN | apply below_drew1 | refine below_set ?_ GE253.out | refine below_set ?_ GE254.out | refine below_set ?_ GE274.out | refine below_set ?_ GE281.out | refine below_set ?_ GE294.out | refine below_set ?_ GE329.out) | exact HB.out)) hb); clear HO_275000; clear HO_275001; clear HO_282000; clear HO_282001; clear HO_295000; clear HO_295001; clear HO319; clear HO322; clear HO325; clear HO328; clear BK253; clear BK254; clear BK274; clear BK281; clear BK294; clear BK329; clear HB; have HO_275000 := n0_; have HO_275001 := n1_; have HO_282000 := n2_; have HO_282001 := n3_; have HO_295000 := n4_; have HO_295001 := n5_; have HO319 := n6_; have HO322 := n7_; have HO325 := n8_; have HO328 := n9_; have BK253 := n10_; have BK254 := n11_; have BK274 := n12_; have BK281 := n13_; have BK294 := n14_; have BK329 := n15_; have HB := n16_; clear n0_ n1_ n2_ n3_ n4_ n5_ n6_ n7_ n8_ n9_ n10_ n11_ n12_ n13_ n14_ n15_ n16_; (try clear hb); (try clear hb2); (try clear hk); (try clear hi)))
            all_goals (go_ret; exact ⟨by first | rfl | (simp [errW_none, errW_some] <;> rfl) | (simp [*, errW_none, errW_some] <;> rfl), by repeat (first | (with_reducible first | exact HB.out | apply below_alloc | apply pw_below_drewN | apply below_drew1 | refine below_set ?_ GE253.out | refine below_set ?_ GE254.out | refine below_set ?_ GE274.out | refine below_set ?_ GE281.out | refine below_set ?_ GE294.out | refine below_set ?_ GE329.out) | exact HB.out)⟩)
           ·rw [if_neg c140] at H
            have c140b0 : (t331 == t307) = false := beq_eq_false_iff_ne.mpr c140
            have c140b1 : (t331 != t307) = true := bne_iff_ne.mpr c140
            obtain rfl := Option.some.inj H
            exact absurd hr_ (by decide)
         ·replace c104 := Bool.eq_false_iff.mpr c104
          subst c104
          have H1 : (some false) = some r := by rw [if_neg (show ¬ (false = true) by decide)] at H; exact H
          clear H
          have H := H1
          clear H1
          obtain rfl := Option.some.inj H
          exact absurd hr_ (by decide)
        ·rw [if_neg c99] at H
         have c99b0 : (t310 == t307) = false := beq_eq_false_iff_ne.mpr c99
         have c99b1 : (t310 != t307) = true := bne_iff_ne.mpr c99
         obtain rfl := Option.some.inj H
         exact absurd hr_ (by decide)
   ·replace c20 := Bool.eq_false_iff.mpr c20
    subst c20
    have H1 : (some false) = some r := by rw [if_neg (show ¬ (false = true) by decide)] at H; exact H
    clear H
    have H := H1
    clear H1
    obtain rfl := Option.some.inj H
    exact absurd hr_ (by decide)
  ·replace c17 := Bool.eq_false_iff.mpr c17
   subst c17
   have H1 : (some false) = some r := by rw [if_neg (show ¬ (false = true) by decide)] at H; exact H
   clear H
   have H := H1
   clear H1
   obtain rfl := Option.some.inj H
   exact absurd hr_ (by decide)


end Go.Proofs.Ytdlocaecdlgnjaa.PFnExactMovePath
