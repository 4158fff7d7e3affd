/- The walks of FnExactCubicAt, part 3: what the print wrote, with some proofs of the session's own. -/
import Derived.Test.YtdlocaecdlgnjaaName
import Derived.Test.YtdlocaecdlgnjaaPFnExactCubicAtx0
import Derived.Test.YtdlocaecdlgnjaaQFnExactCubicAtx1
import Derived.Test.YtdlocaecdlgnjaaQFnExactCubicAtx2
namespace Go.Proofs.Ytdlocaecdlgnjaa.PFnExactCubicAt
open Go.RowKit Go.Proofs.YtdlocaecdlgnjaaW.PrintWords Go.Proofs.YtdlocaecdlgnjaaW.PrintLast Go.Proofs.YtdlocaecdlgnjaaW.PrintMore
attribute [local go_sem] max2_int min2_int max_two min_two max_three min_three max_four min_four   -- for this text's walks alone
set_option linter.unusedVariables false
set_option linter.unusedSimpArgs false

/-! ### laws_FnExactCubicAt: function 4 -/
def laws_FnExactCubicAt.f (k : Nat) (a0_0 : Int) (a0_1 : Int) (a1_0 : Int) (a1_1 : Int) (a2_0 : Int) (a2_1 : Int) (a3_0 : Int) (a3_1 : Int) (a4 : Int) : Option (Bool) := (laws_toPoint.f a0_0 a0_1).bind fun bt156 => ((laws_toPoint.f a1_0 a1_1).bind fun bt158 => ((laws_toPoint.f a2_0 a2_1).bind fun bt160 => ((laws_toPoint.f a3_0 a3_1).bind fun bt162 => ((spec_CubicAt.f k bt156.1 bt156.2 bt158.1 bt158.2 bt160.1 bt160.2 bt162.1 bt162.2 a4).bind fun bt164 => ((laws_toPoint.f a0_0 a0_1).bind fun bt167 => ((laws_toPoint.f a1_0 a1_1).bind fun bt169 => ((laws_toPoint.f a2_0 a2_1).bind fun bt171 => ((laws_toPoint.f a3_0 a3_1).bind fun bt173 => ((impl_CubicAt.f k bt167.1 bt167.2 bt169.1 bt169.2 bt171.1 bt171.2 bt173.1 bt173.2 a4).bind fun bt175 => ((laws_eqPoint.f bt175.1 bt175.2 bt164.1 bt164.2).bind fun t178 => (if t178 = true then (some true) else (some false))))))))))))
theorem laws_FnExactCubicAt.mono : ∀ a0 a1 a2 a3 a4 a5 a6 a7 a8 k, LeO (laws_FnExactCubicAt.f k a0 a1 a2 a3 a4 a5 a6 a7 a8) (laws_FnExactCubicAt.f (k + 1) a0 a1 a2 a3 a4 a5 a6 a7 a8) := by
 intro a0 a1 a2 a3 a4 a5 a6 a7 a8 k
 unfold laws_FnExactCubicAt.f
 repeat' first
   | (with_reducible exact impl_CubicAt.mono _ _ _ _ _ _ _ _ _ _)
   | (with_reducible exact spec_CubicAt.mono _ _ _ _ _ _ _ _ _ _)
   | (with_reducible exact LeO.refl _)
   | (with_reducible exact LeO.none _)
   | (with_reducible refine LeO.ite ?_ ?_)
   | (with_reducible refine LeO.bind ?_ (fun _ => ?_))
   | exact impl_CubicAt.mono _ _ _ _ _ _ _ _ _ _
   | exact spec_CubicAt.mono _ _ _ _ _ _ _ _ _ _
   | exact LeO.none _
   | refine LeO.ite ?_ ?_
   | refine LeO.bind ?_ (fun _ => ?_)
def laws_FnExactCubicAt.T1 : Bool × List (List Nat × List Nat) := (true, [([], []), ([0], [0]), ([], []), ([2, 1], [2]), ([], []), ([4, 3], [4]), ([], []), ([6, 5], [6]), ([], []), ([1, 3, 5, 7, 8, 7], [1, 3, 5, 7, 8]), ([], []), ([10, 9, 9, 0, 1, 2, 3, 4, 5, 6, 7, 8, 9, 10], [9, 10])])
def laws_FnExactCubicAt.B1 : List Nat := [0, 1, 0, 7, 0, 31, 0, 127, 0, 511, 0, 2047]
theorem laws_FnExactCubicAt.tab1 : rtab .any (opsOf Try.f4 1) = laws_FnExactCubicAt.T1 := by kernel_rfl
theorem laws_FnExactCubicAt.bits1 : waitsOk laws_FnExactCubicAt.T1.2 laws_FnExactCubicAt.B1 = true := by kernel_rfl
def laws_FnExactCubicAt.T2 : Bool × List (List Nat × List Nat) := (true, [([], []), ([0], [0]), ([], []), ([2, 1], [2]), ([], []), ([4, 3], [4]), ([], []), ([6, 5], [6]), ([], []), ([1, 3, 5, 7, 8, 7], [1, 3, 5, 7, 8]), ([], []), ([10, 9, 9, 0, 1, 2, 3, 4, 5, 6, 7, 8, 9, 10], [9, 10])])
def laws_FnExactCubicAt.B2 : List Nat := [0, 1, 0, 7, 0, 31, 0, 127, 0, 511, 0, 2047]
theorem laws_FnExactCubicAt.tab2 : rtab .any (opsOf Try.f4 2) = laws_FnExactCubicAt.T2 := by kernel_rfl
theorem laws_FnExactCubicAt.bits2 : waitsOk laws_FnExactCubicAt.T2.2 laws_FnExactCubicAt.B2 = true := by kernel_rfl
set_option maxHeartbeats 8000000 in
set_option maxRecDepth 100000 in
theorem laws_FnExactCubicAt.calls (k : Nat) (a0_0 : Int) (a0_1 : Int) (a1_0 : Int) (a1_1 : Int) (a2_0 : Int) (a2_1 : Int) (a3_0 : Int) (a3_1 : Int) (a4 : Int) (r : Bool) (hr_ : r = true) (w : World) (h : laws_FnExactCubicAt.f k a0_0 a0_1 a1_0 a1_1 a2_0 a2_1 a3_0 a3_1 a4 = some r) :
  Calls Try.prog 4 #[.agg #[.int .i64 a0_0, .int .i64 a0_1], .agg #[.int .i64 a1_0, .int .i64 a1_1], .agg #[.int .i64 a2_0, .int .i64 a2_1], .agg #[.int .i64 a3_0, .int .i64 a3_1], .int .i64 a4] w fun e w' => e = .returned (.bool r) ∧ Below w.heap.size w w' := by
 have hu23 := Try.underlying23
 have hu24 := Try.underlying24
 have HB := Aside0.mk (Below.refl w.heap.size w)
 have H : ((laws_toPoint.f a0_0 a0_1).bind fun bt156 => ((laws_toPoint.f a1_0 a1_1).bind fun bt158 => ((laws_toPoint.f a2_0 a2_1).bind fun bt160 => ((laws_toPoint.f a3_0 a3_1).bind fun bt162 => ((spec_CubicAt.f k bt156.1 bt156.2 bt158.1 bt158.2 bt160.1 bt160.2 bt162.1 bt162.2 a4).bind fun bt164 => ((laws_toPoint.f a0_0 a0_1).bind fun bt167 => ((laws_toPoint.f a1_0 a1_1).bind fun bt169 => ((laws_toPoint.f a2_0 a2_1).bind fun bt171 => ((laws_toPoint.f a3_0 a3_1).bind fun bt173 => ((impl_CubicAt.f k bt167.1 bt167.2 bt169.1 bt169.2 bt171.1 bt171.2 bt173.1 bt173.2 a4).bind fun bt175 => ((laws_eqPoint.f bt175.1 bt175.2 bt164.1 bt164.2).bind fun t178 => (if t178 = true then (some true) else (some false))))))))))))) = some r := h
 clear h
 replace H := Option.bind_eq_some_iff.mp H
 obtain ⟨⟨t156, t157⟩, A60, H⟩ := H
 replace H : ((laws_toPoint.f a1_0 a1_1).bind fun bt158 => ((laws_toPoint.f a2_0 a2_1).bind fun bt160 => ((laws_toPoint.f a3_0 a3_1).bind fun bt162 => ((spec_CubicAt.f k t156 t157 bt158.1 bt158.2 bt160.1 bt160.2 bt162.1 bt162.2 a4).bind fun bt164 => ((laws_toPoint.f a0_0 a0_1).bind fun bt167 => ((laws_toPoint.f a1_0 a1_1).bind fun bt169 => ((laws_toPoint.f a2_0 a2_1).bind fun bt171 => ((laws_toPoint.f a3_0 a3_1).bind fun bt173 => ((impl_CubicAt.f k bt167.1 bt167.2 bt169.1 bt169.2 bt171.1 bt171.2 bt173.1 bt173.2 a4).bind fun bt175 => ((laws_eqPoint.f bt175.1 bt175.2 bt164.1 bt164.2).bind fun t178 => (if t178 = true then (some true) else (some false)))))))))))) = some r := H
 have A6 := Aside0.mk A60
 clear A60
 replace H := Option.bind_eq_some_iff.mp H
 obtain ⟨⟨t158, t159⟩, A70, H⟩ := H
 replace H : ((laws_toPoint.f a2_0 a2_1).bind fun bt160 => ((laws_toPoint.f a3_0 a3_1).bind fun bt162 => ((spec_CubicAt.f k t156 t157 t158 t159 bt160.1 bt160.2 bt162.1 bt162.2 a4).bind fun bt164 => ((laws_toPoint.f a0_0 a0_1).bind fun bt167 => ((laws_toPoint.f a1_0 a1_1).bind fun bt169 => ((laws_toPoint.f a2_0 a2_1).bind fun bt171 => ((laws_toPoint.f a3_0 a3_1).bind fun bt173 => ((impl_CubicAt.f k bt167.1 bt167.2 bt169.1 bt169.2 bt171.1 bt171.2 bt173.1 bt173.2 a4).bind fun bt175 => ((laws_eqPoint.f bt175.1 bt175.2 bt164.1 bt164.2).bind fun t178 => (if t178 = true then (some true) else (some false))))))))))) = some r := H
 have A7 := Aside0.mk A70
 clear A70
 replace H := Option.bind_eq_some_iff.mp H
 obtain ⟨⟨t160, t161⟩, A80, H⟩ := H
 replace H : ((laws_toPoint.f a3_0 a3_1).bind fun bt162 => ((spec_CubicAt.f k t156 t157 t158 t159 t160 t161 bt162.1 bt162.2 a4).bind fun bt164 => ((laws_toPoint.f a0_0 a0_1).bind fun bt167 => ((laws_toPoint.f a1_0 a1_1).bind fun bt169 => ((laws_toPoint.f a2_0 a2_1).bind fun bt171 => ((laws_toPoint.f a3_0 a3_1).bind fun bt173 => ((impl_CubicAt.f k bt167.1 bt167.2 bt169.1 bt169.2 bt171.1 bt171.2 bt173.1 bt173.2 a4).bind fun bt175 => ((laws_eqPoint.f bt175.1 bt175.2 bt164.1 bt164.2).bind fun t178 => (if t178 = true then (some true) else (some false)))))))))) = some r := H
 have A8 := Aside0.mk A80
 clear A80
 replace H := Option.bind_eq_some_iff.mp H
 obtain ⟨⟨t162, t163⟩, A90, H⟩ := H
 replace H : ((spec_CubicAt.f k t156 t157 t158 t159 t160 t161 t162 t163 a4).bind fun bt164 => ((laws_toPoint.f a0_0 a0_1).bind fun bt167 => ((laws_toPoint.f a1_0 a1_1).bind fun bt169 => ((laws_toPoint.f a2_0 a2_1).bind fun bt171 => ((laws_toPoint.f a3_0 a3_1).bind fun bt173 => ((impl_CubicAt.f k bt167.1 bt167.2 bt169.1 bt169.2 bt171.1 bt171.2 bt173.1 bt173.2 a4).bind fun bt175 => ((laws_eqPoint.f bt175.1 bt175.2 bt164.1 bt164.2).bind fun t178 => (if t178 = true then (some true) else (some false))))))))) = some r := H
 have A9 := Aside0.mk A90
 clear A90
 replace H := Option.bind_eq_some_iff.mp H
 obtain ⟨⟨t164, t165⟩, A100, H⟩ := H
 replace H : ((laws_toPoint.f a0_0 a0_1).bind fun bt167 => ((laws_toPoint.f a1_0 a1_1).bind fun bt169 => ((laws_toPoint.f a2_0 a2_1).bind fun bt171 => ((laws_toPoint.f a3_0 a3_1).bind fun bt173 => ((impl_CubicAt.f k bt167.1 bt167.2 bt169.1 bt169.2 bt171.1 bt171.2 bt173.1 bt173.2 a4).bind fun bt175 => ((laws_eqPoint.f bt175.1 bt175.2 t164 t165).bind fun t178 => (if t178 = true then (some true) else (some false)))))))) = some r := H
 have A10 := Aside0.mk A100
 clear A100
 replace H := Option.bind_eq_some_iff.mp H
 obtain ⟨⟨t167, t168⟩, A110, H⟩ := H
 replace H : ((laws_toPoint.f a1_0 a1_1).bind fun bt169 => ((laws_toPoint.f a2_0 a2_1).bind fun bt171 => ((laws_toPoint.f a3_0 a3_1).bind fun bt173 => ((impl_CubicAt.f k t167 t168 bt169.1 bt169.2 bt171.1 bt171.2 bt173.1 bt173.2 a4).bind fun bt175 => ((laws_eqPoint.f bt175.1 bt175.2 t164 t165).bind fun t178 => (if t178 = true then (some true) else (some false))))))) = some r := H
 have A11 := Aside0.mk A110
 clear A110
 replace H := Option.bind_eq_some_iff.mp H
 obtain ⟨⟨t169, t170⟩, A120, H⟩ := H
 replace H : ((laws_toPoint.f a2_0 a2_1).bind fun bt171 => ((laws_toPoint.f a3_0 a3_1).bind fun bt173 => ((impl_CubicAt.f k t167 t168 t169 t170 bt171.1 bt171.2 bt173.1 bt173.2 a4).bind fun bt175 => ((laws_eqPoint.f bt175.1 bt175.2 t164 t165).bind fun t178 => (if t178 = true then (some true) else (some false)))))) = some r := H
 have A12 := Aside0.mk A120
 clear A120
 replace H := Option.bind_eq_some_iff.mp H
 obtain ⟨⟨t171, t172⟩, A130, H⟩ := H
 replace H : ((laws_toPoint.f a3_0 a3_1).bind fun bt173 => ((impl_CubicAt.f k t167 t168 t169 t170 t171 t172 bt173.1 bt173.2 a4).bind fun bt175 => ((laws_eqPoint.f bt175.1 bt175.2 t164 t165).bind fun t178 => (if t178 = true then (some true) else (some false))))) = some r := H
 have A13 := Aside0.mk A130
 clear A130
 replace H := Option.bind_eq_some_iff.mp H
 obtain ⟨⟨t173, t174⟩, A140, H⟩ := H
 replace H : ((impl_CubicAt.f k t167 t168 t169 t170 t171 t172 t173 t174 a4).bind fun bt175 => ((laws_eqPoint.f bt175.1 bt175.2 t164 t165).bind fun t178 => (if t178 = true then (some true) else (some false)))) = some r := H
 have A14 := Aside0.mk A140
 clear A140
 replace H := Option.bind_eq_some_iff.mp H
 obtain ⟨⟨t175, t176⟩, A150, H⟩ := H
 replace H : ((laws_eqPoint.f t175 t176 t164 t165).bind fun t178 => (if t178 = true then (some true) else (some false))) = some r := H
 have A15 := Aside0.mk A150
 clear A150
 replace H := Option.bind_eq_some_iff.mp H
 obtain ⟨t178, A160, H⟩ := H
 replace H : (if t178 = true then (some true) else (some false)) = some r := H
 have A16 := Aside0.mk A160
 clear A160
 by_cases c17 : t178 = true
 ·subst c17
  have H1 : (some true) = some r := by rw [if_pos rfl] at H; exact H
  clear H
  have H := H1
  clear H1
  obtain rfl := Option.some.inj H
  go_enter Try.func4, Try.ntmps4
  try go_wp2_with (first | ((with_reducible refine gate_dst (N := 5) rfl ?_); refine box_event ?hg (N := 5) ?hd (cs := #[.int .i64 a0_0, .int .i64 a0_1]) (t := 23) ?hr ?_; (case hd => rfl); (case hg => rfl); (case hr => first | (go_simp; done) | (go_simp; rfl)); intro gb152 hg w18 hbox hb; have n0_ := Aside0.mk (below_step (by repeat (first | (with_reducible first | exact HB.out | apply below_alloc | apply pw_below_drewN | apply below_drew1) | exact HB.out)) hb); have n1_ := Aside0.mk (hbox); have n2_ := Aside0.mk ((by rw [hg]; exact (below_size (by repeat (first | (with_reducible first | exact HB.out | apply below_alloc | apply pw_below_drewN | apply below_drew1) | exact HB.out))) : w.heap.size ≤ gb152)); have n3_ := Aside0.mk ((by rw [hg]; exact (below_size (by repeat (first | (with_reducible first | exact HB.out | apply below_alloc | apply pw_below_drewN | apply below_drew1) | exact HB.out))) : w.heap.size ≤ gb152)); clear HB; have HB := n0_; have BK152 := n1_; have GW152 := n2_; have GE152 := n3_; clear n0_ n1_ n2_ n3_; clear hb hbox hg) | ((with_reducible refine gate_dst (N := 6) rfl ?_); refine box_event ?hg (N := 6) ?hd (cs := #[.int .i64 a1_0, .int .i64 a1_1]) (t := 23) ?hr ?_; (case hd => rfl); (case hg => rfl); (case hr => first | (go_simp; done) | (go_simp; rfl)); intro gb153 hg w19 hbox hb; have n0_ := Aside0.mk (blk_below (g := gb152) (o := .cells #[.int .i64 a0_0, .int .i64 a0_1] 23 (0, 0)) (by exact BK152.out) hb); have n1_ := Aside0.mk (below_step (by repeat (first | (with_reducible first | exact HB.out | apply below_alloc | apply pw_below_drewN | apply below_drew1 | refine below_set ?_ GE152.out) | exact HB.out)) hb); have n2_ := Aside0.mk (hbox); have n3_ := Aside0.mk ((by rw [hg]; exact (below_size (by repeat (first | (with_reducible first | exact HB.out | apply below_alloc | apply pw_below_drewN | apply below_drew1 | refine below_set ?_ GE152.out) | exact HB.out))) : w.heap.size ≤ gb153)); have n4_ := Aside0.mk ((by rw [hg]; exact (below_size (by repeat (first | (with_reducible first | exact HB.out | apply below_alloc | apply pw_below_drewN | apply below_drew1 | refine below_set ?_ GE152.out) | exact HB.out))) : w.heap.size ≤ gb153)); have n5_ := Aside0.mk ((by rw [hg]; exact Nat.ne_of_lt (blk_lt (g := gb152) (o := .cells #[.int .i64 a0_0, .int .i64 a0_1] 23 (0, 0)) (by exact BK152.out)) : gb152 ≠ gb153)); have n6_ := Aside0.mk ((by rw [hg]; exact Nat.ne_of_gt (blk_lt (g := gb152) (o := .cells #[.int .i64 a0_0, .int .i64 a0_1] 23 (0, 0)) (by exact BK152.out)) : gb153 ≠ gb152)); clear BK152; clear HB; have BK152 := n0_; have HB := n1_; have BK153 := n2_; have GW153 := n3_; have GE153 := n4_; have NB152_153 := n5_; have NB153_152 := n6_; clear n0_ n1_ n2_ n3_ n4_ n5_ n6_; clear hb hbox hg) | ((with_reducible refine gate_dst (N := 7) rfl ?_); refine box_event ?hg (N := 7) ?hd (cs := #[.int .i64 a2_0, .int .i64 a2_1]) (t := 23) ?hr ?_; (case hd => rfl); (case hg => rfl); (case hr => first | (go_simp; done) | (go_simp; rfl)); intro gb154 hg w20 hbox hb; have n0_ := Aside0.mk (blk_below (g := gb152) (o := .cells #[.int .i64 a0_0, .int .i64 a0_1] 23 (0, 0)) (by exact BK152.out) hb); have n1_ := Aside0.mk (blk_below (g := gb153) (o := .cells #[.int .i64 a1_0, .int .i64 a1_1] 23 (0, 0)) (by exact BK153.out) hb); have n2_ := Aside0.mk (below_step (by repeat (first | (with_reducible first | exact HB.out | apply below_alloc | apply pw_below_drewN | apply below_drew1 | refine below_set ?_ GE152.out | refine below_set ?_ GE153.out) | exact HB.out)) hb); have n3_ := Aside0.mk (hbox); have n4_ := Aside0.mk ((by rw [hg]; exact (below_size (by repeat (first | (with_reducible first | exact HB.out | apply below_alloc | apply pw_below_drewN | apply below_drew1 | refine below_set ?_ GE152.out | refine below_set ?_ GE153.out) | exact HB.out))) : w.heap.size ≤ gb154)); have n5_ := Aside0.mk ((by rw [hg]; exact (below_size (by repeat (first | (with_reducible first | exact HB.out | apply below_alloc | apply pw_below_drewN | apply below_drew1 | refine below_set ?_ GE152.out | refine below_set ?_ GE153.out) | exact HB.out))) : w.heap.size ≤ gb154)); have n6_ := Aside0.mk ((by rw [hg]; exact Nat.ne_of_lt (blk_lt (g := gb152) (o := .cells #[.int .i64 a0_0, .int .i64 a0_1] 23 (0, 0)) (by exact BK152.out)) : gb152 ≠ gb154)); have n7_ := Aside0.mk ((by rw [hg]; exact Nat.ne_of_gt (blk_lt (g := gb152) (o := .cells #[.int .i64 a0_0, .int .i64 a0_1] 23 (0, 0)) (by exact BK152.out)) : gb154 ≠ gb152)); have n8_ := Aside0.mk ((by rw [hg]; exact Nat.ne_of_lt (blk_lt (g := gb153) (o := .cells #[.int .i64 a1_0, .int .i64 a1_1] 23 (0, 0)) (by exact BK153.out)) : gb153 ≠ gb154)); have n9_ := Aside0.mk ((by rw [hg]; exact Nat.ne_of_gt (blk_lt (g := gb153) (o := .cells #[.int .i64 a1_0, .int .i64 a1_1] 23 (0, 0)) (by exact BK153.out)) : gb154 ≠ gb153)); clear BK152; clear BK153; clear HB; have BK152 := n0_; have BK153 := n1_; have HB := n2_; have BK154 := n3_; have GW154 := n4_; have GE154 := n5_; have NB152_154 := n6_; have NB154_152 := n7_; have NB153_154 := n8_; have NB154_153 := n9_; clear n0_ n1_ n2_ n3_ n4_ n5_ n6_ n7_ n8_ n9_; clear hb hbox hg) | ((with_reducible refine gate_dst (N := 8) rfl ?_); refine box_event ?hg (N := 8) ?hd (cs := #[.int .i64 a3_0, .int .i64 a3_1]) (t := 23) ?hr ?_; (case hd => rfl); (case hg => rfl); (case hr => first | (go_simp; done) | (go_simp; rfl)); intro gb155 hg w21 hbox hb; have n0_ := Aside0.mk (blk_below (g := gb152) (o := .cells #[.int .i64 a0_0, .int .i64 a0_1] 23 (0, 0)) (by exact BK152.out) hb); have n1_ := Aside0.mk (blk_below (g := gb153) (o := .cells #[.int .i64 a1_0, .int .i64 a1_1] 23 (0, 0)) (by exact BK153.out) hb); have n2_ := Aside0.mk (blk_below (g := gb154) (o := .cells #[.int .i64 a2_0, .int .i64 a2_1] 23 (0, 0)) (by exact BK154.out) hb); have n3_ := Aside0.mk (below_step (by repeat (first | (with_reducible first | exact HB.out | apply below_alloc | apply pw_below_drewN | apply below_drew1 | refine below_set ?_ GE152.out | refine below_set ?_ GE153.out | refine below_set ?_ GE154.out) | exact HB.out)) hb); have n4_ := Aside0.mk (hbox); have n5_ := Aside0.mk ((by rw [hg]; exact (below_size (by repeat (first | (with_reducible first | exact HB.out | apply below_alloc | apply pw_below_drewN | apply below_drew1 | refine below_set ?_ GE152.out | refine below_set ?_ GE153.out | refine below_set ?_ GE154.out) | exact HB.out))) : w.heap.size ≤ gb155)); have n6_ := Aside0.mk ((by rw [hg]; exact (below_size (by repeat (first | (with_reducible first | exact HB.out | apply below_alloc | apply pw_below_drewN | apply below_drew1 | refine below_set ?_ GE152.out | refine below_set ?_ GE153.out | refine below_set ?_ GE154.out) | exact HB.out))) : w.heap.size ≤ gb155)); have n7_ := Aside0.mk ((by rw [hg]; exact Nat.ne_of_lt (blk_lt (g := gb152) (o := .cells #[.int .i64 a0_0, .int .i64 a0_1] 23 (0, 0)) (by exact BK152.out)) : gb152 ≠ gb155)); have n8_ := Aside0.mk ((by rw [hg]; exact Nat.ne_of_gt (blk_lt (g := gb152) (o := .cells #[.int .i64 a0_0, .int .i64 a0_1] 23 (0, 0)) (by exact BK152.out)) : gb155 ≠ gb152)); have n9_ := Aside0.mk ((by rw [hg]; exact Nat.ne_of_lt (blk_lt (g := gb153) (o := .cells #[.int .i64 a1_0, .int .i64 a1_1] 23 (0, 0)) (by exact BK153.out)) : gb153 ≠ gb155)); have n10_ := Aside0.mk ((by rw [hg]; exact Nat.ne_of_gt (blk_lt (g := gb153) (o := .cells #[.int .i64 a1_0, .int .i64 a1_1] 23 (0, 0)) (by exact BK153.out)) : gb155 ≠ gb153)); have n11_ := Aside0.mk ((by rw [hg]; exact Nat.ne_of_lt (blk_lt (g := gb154) (o := .cells #[.int .i64 a2_0, .int .i64 a2_1] 23 (0, 0)) (by exact BK154.out)) : gb154 ≠ gb155)); have n12_ := Aside0.mk ((by rw [hg]; exact Nat.ne_of_gt (blk_lt (g := gb154) (o := .cells #[.int .i64 a2_0, .int .i64 a2_1] 23 (0, 0)) (by exact BK154.out)) : gb155 ≠ gb154)); clear BK152; clear BK153; clear BK154; clear HB; have BK152 := n0_; have BK153 := n1_; have BK154 := n2_; have HB := n3_; have BK155 := n4_; have GW155 := n5_; have GE155 := n6_; have NB152_155 := n7_; have NB155_152 := n8_; have NB153_155 := n9_; have NB155_153 := n10_; have NB154_155 := n11_; have NB155_154 := n12_; clear n0_ n1_ n2_ n3_ n4_ n5_ n6_ n7_ n8_ n9_ n10_ n11_ n12_; clear hb hbox hg))
  have n0_ := Aside0.mk (blk_drew BK152.out)
  have n1_ := Aside0.mk (blk_drew BK153.out)
  have n2_ := Aside0.mk (blk_drew BK154.out)
  have n3_ := Aside0.mk (blk_drew BK155.out)
  have n4_ := Aside0.mk (below_drew1 HB.out)
  clear BK152
  clear BK153
  clear BK154
  clear BK155
  clear HB
  have BK152 := n0_
  have BK153 := n1_
  have BK154 := n2_
  have BK155 := n3_
  have HB := n4_
  clear n0_ n1_ n2_ n3_ n4_
  refine start_ (n := 12) (S := fun w' => w'.cell? ⟨gb152, 0, none⟩ = some (.int .i64 a0_0) ∧ w'.cell? ⟨gb152, 1, none⟩ = some (.int .i64 a0_1) ∧ w'.cell? ⟨gb153, 0, none⟩ = some (.int .i64 a1_0) ∧ w'.cell? ⟨gb153, 1, none⟩ = some (.int .i64 a1_1) ∧ w'.cell? ⟨gb154, 0, none⟩ = some (.int .i64 a2_0) ∧ w'.cell? ⟨gb154, 1, none⟩ = some (.int .i64 a2_1) ∧ w'.cell? ⟨gb155, 0, none⟩ = some (.int .i64 a3_0) ∧ w'.cell? ⟨gb155, 1, none⟩ = some (.int .i64 a3_1)) (ds := []) #[false, false, false, false, false, false, false, false, false, false, false, false] (by kernel_rfl) rfl rfl ⟨(blk_cell BK152.out 0).trans rfl, (blk_cell BK152.out 1).trans rfl, (blk_cell BK153.out 0).trans rfl, (blk_cell BK153.out 1).trans rfl, (blk_cell BK154.out 0).trans rfl, (blk_cell BK154.out 1).trans rfl, (blk_cell BK155.out 0).trans rfl, (blk_cell BK155.out 1).trans rfl⟩ (fun hHeld => ?_); refine with_tabW laws_FnExactCubicAt.tab1 laws_FnExactCubicAt.bits1 (fun HT_ HW_ => ?_)
  generalize w21.drew = w22 at BK152 BK153 BK154 BK155 HB hHeld ⊢
  refine pure_ (i := 8) (N := some 21) (v := ?_) (a' := ?_) #[false, false, false, false, false, false, false, false, true, false, false, false] rfl rfl (any_of HT_.out (by kernel_rfl)) (fun _ _ _ h => h) (Or.inl ⟨by rfl, ?_⟩) ?_ ?_
  rotate_left
  ·intro w'
   go_simp
   with_reducible rfl
  rotate_left
  ·simp only [Act.put, List.setIfInBounds_toArray, List.set_cons_zero, List.set_cons_succ, i64_w, i32_w]
   rfl
  refine take_ (i := 0) (N := some 13) (v := ?_) (a' := ?_) #[true, false, false, false, false, false, false, false, true, false, false, false] rfl rfl (take_ofW HT_.out HW_.out (by kernel_rfl)) (fun _ _ _ h => h) (Or.inl ⟨by rfl, ?_⟩) hHeld ?_ ?_
  rotate_left
  ·rintro w' ⟨s0, s1, s2, s3, s4, s5, s6, s7⟩
   go_simp
   with_reducible rfl
  rotate_left
  ·simp only [Act.put, List.setIfInBounds_toArray, List.set_cons_zero, List.set_cons_succ, i64_w, i32_w]
   rfl
  refine take_ (i := 2) (N := some 15) (v := ?_) (a' := ?_) #[true, false, true, false, false, false, false, false, true, false, false, false] rfl rfl (take_ofW HT_.out HW_.out (by kernel_rfl)) (fun _ _ _ h => h) (Or.inl ⟨by rfl, ?_⟩) hHeld ?_ ?_
  rotate_left
  ·rintro w' ⟨s0, s1, s2, s3, s4, s5, s6, s7⟩
   go_simp
   with_reducible rfl
  rotate_left
  ·simp only [Act.put, List.setIfInBounds_toArray, List.set_cons_zero, List.set_cons_succ, i64_w, i32_w]
   rfl
  refine take_ (i := 4) (N := some 17) (v := ?_) (a' := ?_) #[true, false, true, false, true, false, false, false, true, false, false, false] rfl rfl (take_ofW HT_.out HW_.out (by kernel_rfl)) (fun _ _ _ h => h) (Or.inl ⟨by rfl, ?_⟩) hHeld ?_ ?_
  rotate_left
  ·rintro w' ⟨s0, s1, s2, s3, s4, s5, s6, s7⟩
   go_simp
   with_reducible rfl
  rotate_left
  ·simp only [Act.put, List.setIfInBounds_toArray, List.set_cons_zero, List.set_cons_succ, i64_w, i32_w]
   rfl
  refine take_ (i := 6) (N := some 19) (v := ?_) (a' := ?_) #[true, false, true, false, true, false, true, false, true, false, false, false] rfl rfl (take_ofW HT_.out HW_.out (by kernel_rfl)) (fun _ _ _ h => h) (Or.inl ⟨by rfl, ?_⟩) hHeld ?_ ?_
  rotate_left
  ·rintro w' ⟨s0, s1, s2, s3, s4, s5, s6, s7⟩
   go_simp
   with_reducible rfl
  rotate_left
  ·simp only [Act.put, List.setIfInBounds_toArray, List.set_cons_zero, List.set_cons_succ, i64_w, i32_w]
   rfl
  refine join_ (σ := Nat) 1 #[true, true, true, true, true, true, true, true, true, true, true, false] (fun s_ => [(14, .agg #[.int .i64 t156, .int .i64 t157]), (16, .agg #[.int .i64 t158, .int .i64 t159]), (18, .agg #[.int .i64 t160, .int .i64 t161]), (20, .agg #[.int .i64 t162, .int .i64 t163]), (22, .agg #[.int .i64 t164, .int .i64 t165]), (11, .pointer (some ⟨s_, 0, none⟩))]) (fun s_ w' => (w'.cell? ⟨gb152, 0, none⟩ = some (.int .i64 a0_0) ∧ w'.cell? ⟨gb152, 1, none⟩ = some (.int .i64 a0_1) ∧ w'.cell? ⟨gb153, 0, none⟩ = some (.int .i64 a1_0) ∧ w'.cell? ⟨gb153, 1, none⟩ = some (.int .i64 a1_1) ∧ w'.cell? ⟨gb154, 0, none⟩ = some (.int .i64 a2_0) ∧ w'.cell? ⟨gb154, 1, none⟩ = some (.int .i64 a2_1) ∧ w'.cell? ⟨gb155, 0, none⟩ = some (.int .i64 a3_0) ∧ w'.cell? ⟨gb155, 1, none⟩ = some (.int .i64 a3_1)) ∧ (w'.heap[gb152]? = some (.cells #[.int .i64 a0_0, .int .i64 a0_1] 23 (0, 0))) ∧ (w'.heap[gb153]? = some (.cells #[.int .i64 a1_0, .int .i64 a1_1] 23 (0, 0))) ∧ (w'.heap[gb154]? = some (.cells #[.int .i64 a2_0, .int .i64 a2_1] 23 (0, 0))) ∧ (w'.heap[gb155]? = some (.cells #[.int .i64 a3_0, .int .i64 a3_1] 23 (0, 0))) ∧ (w'.heap[s_]? = some (.cells #[.int .i64 0, .int .i64 0] 24 (0, 0))) ∧ (w.heap.size ≤ s_) ∧ (w.heap.size ≤ s_) ∧ (gb152 ≠ s_) ∧ (s_ ≠ gb152) ∧ (gb153 ≠ s_) ∧ (s_ ≠ gb153) ∧ (gb154 ≠ s_) ∧ (s_ ≠ gb154) ∧ (gb155 ≠ s_) ∧ (s_ ≠ gb155) ∧ (Below w.heap.size w w')) ?_ ?_
  rotate_left
  ·intro hJ1_3_5_7_9_10
   refine join_ (σ := Unit) 2 #[true, true, true, true, true, true, true, true, true, true, false, false] (fun s_ => [(14, .agg #[.int .i64 t156, .int .i64 t157]), (16, .agg #[.int .i64 t158, .int .i64 t159]), (18, .agg #[.int .i64 t160, .int .i64 t161]), (20, .agg #[.int .i64 t162, .int .i64 t163]), (22, .agg #[.int .i64 t164, .int .i64 t165])]) (fun s_ w' => (w'.cell? ⟨gb152, 0, none⟩ = some (.int .i64 a0_0) ∧ w'.cell? ⟨gb152, 1, none⟩ = some (.int .i64 a0_1) ∧ w'.cell? ⟨gb153, 0, none⟩ = some (.int .i64 a1_0) ∧ w'.cell? ⟨gb153, 1, none⟩ = some (.int .i64 a1_1) ∧ w'.cell? ⟨gb154, 0, none⟩ = some (.int .i64 a2_0) ∧ w'.cell? ⟨gb154, 1, none⟩ = some (.int .i64 a2_1) ∧ w'.cell? ⟨gb155, 0, none⟩ = some (.int .i64 a3_0) ∧ w'.cell? ⟨gb155, 1, none⟩ = some (.int .i64 a3_1)) ∧ (w'.heap[gb152]? = some (.cells #[.int .i64 a0_0, .int .i64 a0_1] 23 (0, 0))) ∧ (w'.heap[gb153]? = some (.cells #[.int .i64 a1_0, .int .i64 a1_1] 23 (0, 0))) ∧ (w'.heap[gb154]? = some (.cells #[.int .i64 a2_0, .int .i64 a2_1] 23 (0, 0))) ∧ (w'.heap[gb155]? = some (.cells #[.int .i64 a3_0, .int .i64 a3_1] 23 (0, 0))) ∧ (Below w.heap.size w w')) ?_ ?_
   rotate_left
   ·intro hJ1_3_5_7_9
    refine join_ (σ := Nat) 2 #[true, true, true, true, true, true, true, true, true, false, true, false] (fun s_ => [(14, .agg #[.int .i64 t156, .int .i64 t157]), (16, .agg #[.int .i64 t158, .int .i64 t159]), (18, .agg #[.int .i64 t160, .int .i64 t161]), (20, .agg #[.int .i64 t162, .int .i64 t163]), (11, .pointer (some ⟨s_, 0, none⟩))]) (fun s_ w' => (w'.cell? ⟨gb152, 0, none⟩ = some (.int .i64 a0_0) ∧ w'.cell? ⟨gb152, 1, none⟩ = some (.int .i64 a0_1) ∧ w'.cell? ⟨gb153, 0, none⟩ = some (.int .i64 a1_0) ∧ w'.cell? ⟨gb153, 1, none⟩ = some (.int .i64 a1_1) ∧ w'.cell? ⟨gb154, 0, none⟩ = some (.int .i64 a2_0) ∧ w'.cell? ⟨gb154, 1, none⟩ = some (.int .i64 a2_1) ∧ w'.cell? ⟨gb155, 0, none⟩ = some (.int .i64 a3_0) ∧ w'.cell? ⟨gb155, 1, none⟩ = some (.int .i64 a3_1)) ∧ (w'.heap[gb152]? = some (.cells #[.int .i64 a0_0, .int .i64 a0_1] 23 (0, 0))) ∧ (w'.heap[gb153]? = some (.cells #[.int .i64 a1_0, .int .i64 a1_1] 23 (0, 0))) ∧ (w'.heap[gb154]? = some (.cells #[.int .i64 a2_0, .int .i64 a2_1] 23 (0, 0))) ∧ (w'.heap[gb155]? = some (.cells #[.int .i64 a3_0, .int .i64 a3_1] 23 (0, 0))) ∧ (w'.heap[s_]? = some (.cells #[.int .i64 0, .int .i64 0] 24 (0, 0))) ∧ (w.heap.size ≤ s_) ∧ (w.heap.size ≤ s_) ∧ (gb152 ≠ s_) ∧ (s_ ≠ gb152) ∧ (gb153 ≠ s_) ∧ (s_ ≠ gb153) ∧ (gb154 ≠ s_) ∧ (s_ ≠ gb154) ∧ (gb155 ≠ s_) ∧ (s_ ≠ gb155) ∧ (Below w.heap.size w w')) ?_ ?_
    rotate_left
    ·intro hJ1_3_5_7_10
     refine join_ (σ := Unit) 3 #[true, true, true, true, true, true, true, true, true, false, false, false] (fun s_ => [(14, .agg #[.int .i64 t156, .int .i64 t157]), (16, .agg #[.int .i64 t158, .int .i64 t159]), (18, .agg #[.int .i64 t160, .int .i64 t161]), (20, .agg #[.int .i64 t162, .int .i64 t163])]) (fun s_ w' => (w'.cell? ⟨gb152, 0, none⟩ = some (.int .i64 a0_0) ∧ w'.cell? ⟨gb152, 1, none⟩ = some (.int .i64 a0_1) ∧ w'.cell? ⟨gb153, 0, none⟩ = some (.int .i64 a1_0) ∧ w'.cell? ⟨gb153, 1, none⟩ = some (.int .i64 a1_1) ∧ w'.cell? ⟨gb154, 0, none⟩ = some (.int .i64 a2_0) ∧ w'.cell? ⟨gb154, 1, none⟩ = some (.int .i64 a2_1) ∧ w'.cell? ⟨gb155, 0, none⟩ = some (.int .i64 a3_0) ∧ w'.cell? ⟨gb155, 1, none⟩ = some (.int .i64 a3_1)) ∧ (w'.heap[gb152]? = some (.cells #[.int .i64 a0_0, .int .i64 a0_1] 23 (0, 0))) ∧ (w'.heap[gb153]? = some (.cells #[.int .i64 a1_0, .int .i64 a1_1] 23 (0, 0))) ∧ (w'.heap[gb154]? = some (.cells #[.int .i64 a2_0, .int .i64 a2_1] 23 (0, 0))) ∧ (w'.heap[gb155]? = some (.cells #[.int .i64 a3_0, .int .i64 a3_1] 23 (0, 0))) ∧ (Below w.heap.size w w')) ?_ ?_
     rotate_left
     ·intro hJ1_3_5_7
      refine join_ (σ := Nat) 3 #[true, true, true, true, true, true, true, false, true, false, true, false] (fun s_ => [(14, .agg #[.int .i64 t156, .int .i64 t157]), (16, .agg #[.int .i64 t158, .int .i64 t159]), (18, .agg #[.int .i64 t160, .int .i64 t161]), (11, .pointer (some ⟨s_, 0, none⟩))]) (fun s_ w' => (w'.cell? ⟨gb152, 0, none⟩ = some (.int .i64 a0_0) ∧ w'.cell? ⟨gb152, 1, none⟩ = some (.int .i64 a0_1) ∧ w'.cell? ⟨gb153, 0, none⟩ = some (.int .i64 a1_0) ∧ w'.cell? ⟨gb153, 1, none⟩ = some (.int .i64 a1_1) ∧ w'.cell? ⟨gb154, 0, none⟩ = some (.int .i64 a2_0) ∧ w'.cell? ⟨gb154, 1, none⟩ = some (.int .i64 a2_1) ∧ w'.cell? ⟨gb155, 0, none⟩ = some (.int .i64 a3_0) ∧ w'.cell? ⟨gb155, 1, none⟩ = some (.int .i64 a3_1)) ∧ (w'.heap[gb152]? = some (.cells #[.int .i64 a0_0, .int .i64 a0_1] 23 (0, 0))) ∧ (w'.heap[gb153]? = some (.cells #[.int .i64 a1_0, .int .i64 a1_1] 23 (0, 0))) ∧ (w'.heap[gb154]? = some (.cells #[.int .i64 a2_0, .int .i64 a2_1] 23 (0, 0))) ∧ (w'.heap[gb155]? = some (.cells #[.int .i64 a3_0, .int .i64 a3_1] 23 (0, 0))) ∧ (w'.heap[s_]? = some (.cells #[.int .i64 0, .int .i64 0] 24 (0, 0))) ∧ (w.heap.size ≤ s_) ∧ (w.heap.size ≤ s_) ∧ (gb152 ≠ s_) ∧ (s_ ≠ gb152) ∧ (gb153 ≠ s_) ∧ (s_ ≠ gb153) ∧ (gb154 ≠ s_) ∧ (s_ ≠ gb154) ∧ (gb155 ≠ s_) ∧ (s_ ≠ gb155) ∧ (Below w.heap.size w w')) ?_ ?_
      rotate_left
      ·intro hJ1_3_5_10
       refine join_ (σ := Unit) 4 #[true, true, true, true, true, true, true, false, true, false, false, false] (fun s_ => [(14, .agg #[.int .i64 t156, .int .i64 t157]), (16, .agg #[.int .i64 t158, .int .i64 t159]), (18, .agg #[.int .i64 t160, .int .i64 t161])]) (fun s_ w' => (w'.cell? ⟨gb152, 0, none⟩ = some (.int .i64 a0_0) ∧ w'.cell? ⟨gb152, 1, none⟩ = some (.int .i64 a0_1) ∧ w'.cell? ⟨gb153, 0, none⟩ = some (.int .i64 a1_0) ∧ w'.cell? ⟨gb153, 1, none⟩ = some (.int .i64 a1_1) ∧ w'.cell? ⟨gb154, 0, none⟩ = some (.int .i64 a2_0) ∧ w'.cell? ⟨gb154, 1, none⟩ = some (.int .i64 a2_1) ∧ w'.cell? ⟨gb155, 0, none⟩ = some (.int .i64 a3_0) ∧ w'.cell? ⟨gb155, 1, none⟩ = some (.int .i64 a3_1)) ∧ (w'.heap[gb152]? = some (.cells #[.int .i64 a0_0, .int .i64 a0_1] 23 (0, 0))) ∧ (w'.heap[gb153]? = some (.cells #[.int .i64 a1_0, .int .i64 a1_1] 23 (0, 0))) ∧ (w'.heap[gb154]? = some (.cells #[.int .i64 a2_0, .int .i64 a2_1] 23 (0, 0))) ∧ (w'.heap[gb155]? = some (.cells #[.int .i64 a3_0, .int .i64 a3_1] 23 (0, 0))) ∧ (Below w.heap.size w w')) ?_ ?_
       rotate_left
       ·intro hJ1_3_5
        refine join_ (σ := Nat) 4 #[true, true, true, true, true, false, true, false, true, false, true, false] (fun s_ => [(14, .agg #[.int .i64 t156, .int .i64 t157]), (16, .agg #[.int .i64 t158, .int .i64 t159]), (11, .pointer (some ⟨s_, 0, none⟩))]) (fun s_ w' => (w'.cell? ⟨gb152, 0, none⟩ = some (.int .i64 a0_0) ∧ w'.cell? ⟨gb152, 1, none⟩ = some (.int .i64 a0_1) ∧ w'.cell? ⟨gb153, 0, none⟩ = some (.int .i64 a1_0) ∧ w'.cell? ⟨gb153, 1, none⟩ = some (.int .i64 a1_1) ∧ w'.cell? ⟨gb154, 0, none⟩ = some (.int .i64 a2_0) ∧ w'.cell? ⟨gb154, 1, none⟩ = some (.int .i64 a2_1) ∧ w'.cell? ⟨gb155, 0, none⟩ = some (.int .i64 a3_0) ∧ w'.cell? ⟨gb155, 1, none⟩ = some (.int .i64 a3_1)) ∧ (w'.heap[gb152]? = some (.cells #[.int .i64 a0_0, .int .i64 a0_1] 23 (0, 0))) ∧ (w'.heap[gb153]? = some (.cells #[.int .i64 a1_0, .int .i64 a1_1] 23 (0, 0))) ∧ (w'.heap[gb154]? = some (.cells #[.int .i64 a2_0, .int .i64 a2_1] 23 (0, 0))) ∧ (w'.heap[gb155]? = some (.cells #[.int .i64 a3_0, .int .i64 a3_1] 23 (0, 0))) ∧ (w'.heap[s_]? = some (.cells #[.int .i64 0, .int .i64 0] 24 (0, 0))) ∧ (w.heap.size ≤ s_) ∧ (w.heap.size ≤ s_) ∧ (gb152 ≠ s_) ∧ (s_ ≠ gb152) ∧ (gb153 ≠ s_) ∧ (s_ ≠ gb153) ∧ (gb154 ≠ s_) ∧ (s_ ≠ gb154) ∧ (gb155 ≠ s_) ∧ (s_ ≠ gb155) ∧ (Below w.heap.size w w')) ?_ ?_
        rotate_left
        ·intro hJ1_3_10
         refine join_ (σ := Unit) 5 #[true, true, true, true, true, false, true, false, true, false, false, false] (fun s_ => [(14, .agg #[.int .i64 t156, .int .i64 t157]), (16, .agg #[.int .i64 t158, .int .i64 t159])]) (fun s_ w' => (w'.cell? ⟨gb152, 0, none⟩ = some (.int .i64 a0_0) ∧ w'.cell? ⟨gb152, 1, none⟩ = some (.int .i64 a0_1) ∧ w'.cell? ⟨gb153, 0, none⟩ = some (.int .i64 a1_0) ∧ w'.cell? ⟨gb153, 1, none⟩ = some (.int .i64 a1_1) ∧ w'.cell? ⟨gb154, 0, none⟩ = some (.int .i64 a2_0) ∧ w'.cell? ⟨gb154, 1, none⟩ = some (.int .i64 a2_1) ∧ w'.cell? ⟨gb155, 0, none⟩ = some (.int .i64 a3_0) ∧ w'.cell? ⟨gb155, 1, none⟩ = some (.int .i64 a3_1)) ∧ (w'.heap[gb152]? = some (.cells #[.int .i64 a0_0, .int .i64 a0_1] 23 (0, 0))) ∧ (w'.heap[gb153]? = some (.cells #[.int .i64 a1_0, .int .i64 a1_1] 23 (0, 0))) ∧ (w'.heap[gb154]? = some (.cells #[.int .i64 a2_0, .int .i64 a2_1] 23 (0, 0))) ∧ (w'.heap[gb155]? = some (.cells #[.int .i64 a3_0, .int .i64 a3_1] 23 (0, 0))) ∧ (Below w.heap.size w w')) ?_ ?_
         rotate_left
         ·intro hJ1_3
          refine join_ (σ := Nat) 5 #[true, true, true, false, true, false, true, false, true, false, true, false] (fun s_ => [(14, .agg #[.int .i64 t156, .int .i64 t157]), (11, .pointer (some ⟨s_, 0, none⟩))]) (fun s_ w' => (w'.cell? ⟨gb152, 0, none⟩ = some (.int .i64 a0_0) ∧ w'.cell? ⟨gb152, 1, none⟩ = some (.int .i64 a0_1) ∧ w'.cell? ⟨gb153, 0, none⟩ = some (.int .i64 a1_0) ∧ w'.cell? ⟨gb153, 1, none⟩ = some (.int .i64 a1_1) ∧ w'.cell? ⟨gb154, 0, none⟩ = some (.int .i64 a2_0) ∧ w'.cell? ⟨gb154, 1, none⟩ = some (.int .i64 a2_1) ∧ w'.cell? ⟨gb155, 0, none⟩ = some (.int .i64 a3_0) ∧ w'.cell? ⟨gb155, 1, none⟩ = some (.int .i64 a3_1)) ∧ (w'.heap[gb152]? = some (.cells #[.int .i64 a0_0, .int .i64 a0_1] 23 (0, 0))) ∧ (w'.heap[gb153]? = some (.cells #[.int .i64 a1_0, .int .i64 a1_1] 23 (0, 0))) ∧ (w'.heap[gb154]? = some (.cells #[.int .i64 a2_0, .int .i64 a2_1] 23 (0, 0))) ∧ (w'.heap[gb155]? = some (.cells #[.int .i64 a3_0, .int .i64 a3_1] 23 (0, 0))) ∧ (w'.heap[s_]? = some (.cells #[.int .i64 0, .int .i64 0] 24 (0, 0))) ∧ (w.heap.size ≤ s_) ∧ (w.heap.size ≤ s_) ∧ (gb152 ≠ s_) ∧ (s_ ≠ gb152) ∧ (gb153 ≠ s_) ∧ (s_ ≠ gb153) ∧ (gb154 ≠ s_) ∧ (s_ ≠ gb154) ∧ (gb155 ≠ s_) ∧ (s_ ≠ gb155) ∧ (Below w.heap.size w w')) ?_ ?_
          rotate_left
          ·intro hJ1_10
           refine join_ (σ := Unit) 6 #[true, true, true, false, true, false, true, false, true, false, false, false] (fun s_ => [(14, .agg #[.int .i64 t156, .int .i64 t157])]) (fun s_ w' => (w'.cell? ⟨gb152, 0, none⟩ = some (.int .i64 a0_0) ∧ w'.cell? ⟨gb152, 1, none⟩ = some (.int .i64 a0_1) ∧ w'.cell? ⟨gb153, 0, none⟩ = some (.int .i64 a1_0) ∧ w'.cell? ⟨gb153, 1, none⟩ = some (.int .i64 a1_1) ∧ w'.cell? ⟨gb154, 0, none⟩ = some (.int .i64 a2_0) ∧ w'.cell? ⟨gb154, 1, none⟩ = some (.int .i64 a2_1) ∧ w'.cell? ⟨gb155, 0, none⟩ = some (.int .i64 a3_0) ∧ w'.cell? ⟨gb155, 1, none⟩ = some (.int .i64 a3_1)) ∧ (w'.heap[gb152]? = some (.cells #[.int .i64 a0_0, .int .i64 a0_1] 23 (0, 0))) ∧ (w'.heap[gb153]? = some (.cells #[.int .i64 a1_0, .int .i64 a1_1] 23 (0, 0))) ∧ (w'.heap[gb154]? = some (.cells #[.int .i64 a2_0, .int .i64 a2_1] 23 (0, 0))) ∧ (w'.heap[gb155]? = some (.cells #[.int .i64 a3_0, .int .i64 a3_1] 23 (0, 0))) ∧ (Below w.heap.size w w')) ?_ ?_
           rotate_left
           ·intro hJ1
            refine join_ (σ := Nat) 6 #[true, false, true, false, true, false, true, false, true, false, true, false] (fun s_ => [(11, .pointer (some ⟨s_, 0, none⟩))]) (fun s_ w' => (w'.cell? ⟨gb152, 0, none⟩ = some (.int .i64 a0_0) ∧ w'.cell? ⟨gb152, 1, none⟩ = some (.int .i64 a0_1) ∧ w'.cell? ⟨gb153, 0, none⟩ = some (.int .i64 a1_0) ∧ w'.cell? ⟨gb153, 1, none⟩ = some (.int .i64 a1_1) ∧ w'.cell? ⟨gb154, 0, none⟩ = some (.int .i64 a2_0) ∧ w'.cell? ⟨gb154, 1, none⟩ = some (.int .i64 a2_1) ∧ w'.cell? ⟨gb155, 0, none⟩ = some (.int .i64 a3_0) ∧ w'.cell? ⟨gb155, 1, none⟩ = some (.int .i64 a3_1)) ∧ (w'.heap[gb152]? = some (.cells #[.int .i64 a0_0, .int .i64 a0_1] 23 (0, 0))) ∧ (w'.heap[gb153]? = some (.cells #[.int .i64 a1_0, .int .i64 a1_1] 23 (0, 0))) ∧ (w'.heap[gb154]? = some (.cells #[.int .i64 a2_0, .int .i64 a2_1] 23 (0, 0))) ∧ (w'.heap[gb155]? = some (.cells #[.int .i64 a3_0, .int .i64 a3_1] 23 (0, 0))) ∧ (w'.heap[s_]? = some (.cells #[.int .i64 0, .int .i64 0] 24 (0, 0))) ∧ (w.heap.size ≤ s_) ∧ (w.heap.size ≤ s_) ∧ (gb152 ≠ s_) ∧ (s_ ≠ gb152) ∧ (gb153 ≠ s_) ∧ (s_ ≠ gb153) ∧ (gb154 ≠ s_) ∧ (s_ ≠ gb154) ∧ (gb155 ≠ s_) ∧ (s_ ≠ gb155) ∧ (Below w.heap.size w w')) ?_ ?_
            rotate_left
            ·intro hJ10
             refine two_ (i := 1) (j := 10) (Ni := some 14) (Nj := some 11) #[true, true, true, false, true, false, true, false, true, false, false, false] #[true, false, true, false, true, false, true, false, true, false, true, false] rfl rfl rfl rfl (two_of HT_.out (by kernel_rfl)) (by decide) (by decide) (fun K hK => ?_) (fun K hK => ?_)
             ·skip
              refine goes_ Try.func15 (by kernel_rfl) rfl #[.agg #[.int .i64 a0_0, .int .i64 a0_1]] (by rfl) rfl rfl (by (try simp only [List.map_toArray, List.map_cons, List.map_nil]); first | done | rfl | (simp only [List.length_drop, List.length_take]; rfl)) ?_
              with_reducible refine (laws_toPoint.calls a0_0 a0_1 t156 t157 _ A6.out).mono ?_
              rintro e w23 ⟨rfl, hb⟩
              refine ⟨_, rfl, ?_⟩
              have n0_ := Aside0.mk (blk_below (g := gb152) (o := .cells #[.int .i64 a0_0, .int .i64 a0_1] 23 (0, 0)) (by exact BK152.out) hb)
              have n1_ := Aside0.mk (blk_below (g := gb153) (o := .cells #[.int .i64 a1_0, .int .i64 a1_1] 23 (0, 0)) (by exact BK153.out) hb)
              have n2_ := Aside0.mk (blk_below (g := gb154) (o := .cells #[.int .i64 a2_0, .int .i64 a2_1] 23 (0, 0)) (by exact BK154.out) hb)
              have n3_ := Aside0.mk (blk_below (g := gb155) (o := .cells #[.int .i64 a3_0, .int .i64 a3_1] 23 (0, 0)) (by exact BK155.out) hb)
              have n4_ := Aside0.mk (below_step (by repeat (first | (with_reducible first | exact HB.out | apply below_alloc | apply pw_below_drewN | apply below_drew1 | refine below_set ?_ GE152.out | refine below_set ?_ GE153.out | refine below_set ?_ GE154.out | refine below_set ?_ GE155.out) | exact HB.out)) hb)
              clear BK152
              clear BK153
              clear BK154
              clear BK155
              clear HB
              have BK152 := n0_
              have BK153 := n1_
              have BK154 := n2_
              have BK155 := n3_
              have HB := n4_
              clear n0_ n1_ n2_ n3_ n4_
              (try clear hb)
              (try clear hb2)
              (try clear hk)
              (try clear hi)
              refine hK.out _ _ ⟨(blk_cell BK152.out 0).trans rfl, (blk_cell BK152.out 1).trans rfl, (blk_cell BK153.out 0).trans rfl, (blk_cell BK153.out 1).trans rfl, (blk_cell BK154.out 0).trans rfl, (blk_cell BK154.out 1).trans rfl, (blk_cell BK155.out 0).trans rfl, (blk_cell BK155.out 1).trans rfl⟩ (fun hHeld => ?_)
              clear hK K
              refine norm_ (a' := ?_) ?_ ?_
              rotate_left
              ·show Act.put _ (some 14) _ = _
               simp only [Act.put, List.setIfInBounds_toArray, List.set_cons_zero, List.set_cons_succ, i64_w, i32_w]
               rfl
              exact norm_ (by first | (simp only [putAll, Act.put, List.setIfInBounds_toArray, List.set_cons_zero, List.set_cons_succ]; done) | (simp only [putAll, Act.put, List.setIfInBounds_toArray, List.set_cons_zero, List.set_cons_succ]; rfl)) (hJ1 () _ ⟨hHeld, (by exact BK152.out), (by exact BK153.out), (by exact BK154.out), (by exact BK155.out), (by repeat (first | (with_reducible first | exact HB.out | apply below_alloc | apply pw_below_drewN | apply below_drew1 | refine below_set ?_ GE152.out | refine below_set ?_ GE153.out | refine below_set ?_ GE154.out | refine below_set ?_ GE155.out) | exact HB.out))⟩)
             ·skip
              refine box_step ?hg (N := 11) ?hd (cs := #[.int .i64 0, .int .i64 0]) (t := 24) ?hr ?_; (case hd => rfl); (case hg => rfl); (case hr => first | (go_simp; done) | (go_simp; rfl))
              intro gb166 hg w23 hbox hb
              have n0_ := Aside0.mk (blk_below (g := gb152) (o := .cells #[.int .i64 a0_0, .int .i64 a0_1] 23 (0, 0)) (by exact BK152.out) hb)
              have n1_ := Aside0.mk (blk_below (g := gb153) (o := .cells #[.int .i64 a1_0, .int .i64 a1_1] 23 (0, 0)) (by exact BK153.out) hb)
              have n2_ := Aside0.mk (blk_below (g := gb154) (o := .cells #[.int .i64 a2_0, .int .i64 a2_1] 23 (0, 0)) (by exact BK154.out) hb)
              have n3_ := Aside0.mk (blk_below (g := gb155) (o := .cells #[.int .i64 a3_0, .int .i64 a3_1] 23 (0, 0)) (by exact BK155.out) hb)
              have n4_ := Aside0.mk (below_step (by repeat (first | (with_reducible first | exact HB.out | apply below_alloc | apply pw_below_drewN | apply below_drew1 | refine below_set ?_ GE152.out | refine below_set ?_ GE153.out | refine below_set ?_ GE154.out | refine below_set ?_ GE155.out) | exact HB.out)) hb)
              have n5_ := Aside0.mk (hbox)
              have n6_ := Aside0.mk ((by rw [hg]; exact (below_size (by repeat (first | (with_reducible first | exact HB.out | apply below_alloc | apply pw_below_drewN | apply below_drew1 | refine below_set ?_ GE152.out | refine below_set ?_ GE153.out | refine below_set ?_ GE154.out | refine below_set ?_ GE155.out) | exact HB.out))) : w.heap.size ≤ gb166))
              have n7_ := Aside0.mk ((by rw [hg]; exact (below_size (by repeat (first | (with_reducible first | exact HB.out | apply below_alloc | apply pw_below_drewN | apply below_drew1 | refine below_set ?_ GE152.out | refine below_set ?_ GE153.out | refine below_set ?_ GE154.out | refine below_set ?_ GE155.out) | exact HB.out))) : w.heap.size ≤ gb166))
              have n8_ := Aside0.mk ((by rw [hg]; exact Nat.ne_of_lt (blk_lt (g := gb152) (o := .cells #[.int .i64 a0_0, .int .i64 a0_1] 23 (0, 0)) (by exact BK152.out)) : gb152 ≠ gb166))
              have n9_ := Aside0.mk ((by rw [hg]; exact Nat.ne_of_gt (blk_lt (g := gb152) (o := .cells #[.int .i64 a0_0, .int .i64 a0_1] 23 (0, 0)) (by exact BK152.out)) : gb166 ≠ gb152))
              have n10_ := Aside0.mk ((by rw [hg]; exact Nat.ne_of_lt (blk_lt (g := gb153) (o := .cells #[.int .i64 a1_0, .int .i64 a1_1] 23 (0, 0)) (by exact BK153.out)) : gb153 ≠ gb166))
              have n11_ := Aside0.mk ((by rw [hg]; exact Nat.ne_of_gt (blk_lt (g := gb153) (o := .cells #[.int .i64 a1_0, .int .i64 a1_1] 23 (0, 0)) (by exact BK153.out)) : gb166 ≠ gb153))
              have n12_ := Aside0.mk ((by rw [hg]; exact Nat.ne_of_lt (blk_lt (g := gb154) (o := .cells #[.int .i64 a2_0, .int .i64 a2_1] 23 (0, 0)) (by exact BK154.out)) : gb154 ≠ gb166))
              have n13_ := Aside0.mk ((by rw [hg]; exact Nat.ne_of_gt (blk_lt (g := gb154) (o := .cells #[.int .i64 a2_0, .int .i64 a2_1] 23 (0, 0)) (by exact BK154.out)) : gb166 ≠ gb154))
              have n14_ := Aside0.mk ((by rw [hg]; exact Nat.ne_of_lt (blk_lt (g := gb155) (o := .cells #[.int .i64 a3_0, .int .i64 a3_1] 23 (0, 0)) (by exact BK155.out)) : gb155 ≠ gb166))
              have n15_ := Aside0.mk ((by rw [hg]; exact Nat.ne_of_gt (blk_lt (g := gb155) (o := .cells #[.int .i64 a3_0, .int .i64 a3_1] 23 (0, 0)) (by exact BK155.out)) : gb166 ≠ gb155))
              clear BK152
              clear BK153
              clear BK154
              clear BK155
              clear HB
              have BK152 := n0_
              have BK153 := n1_
              have BK154 := n2_
              have BK155 := n3_
              have HB := n4_
              have BK166 := n5_
              have GW166 := n6_
              have GE166 := n7_
              have NB152_166 := n8_
              have NB166_152 := n9_
              have NB153_166 := n10_
              have NB166_153 := n11_
              have NB154_166 := n12_
              have NB166_154 := n13_
              have NB155_166 := n14_
              have NB166_155 := n15_
              clear n0_ n1_ n2_ n3_ n4_ n5_ n6_ n7_ n8_ n9_ n10_ n11_ n12_ n13_ n14_ n15_
              clear hb hbox hg
              refine hK.out _ _ ⟨(blk_cell BK152.out 0).trans rfl, (blk_cell BK152.out 1).trans rfl, (blk_cell BK153.out 0).trans rfl, (blk_cell BK153.out 1).trans rfl, (blk_cell BK154.out 0).trans rfl, (blk_cell BK154.out 1).trans rfl, (blk_cell BK155.out 0).trans rfl, (blk_cell BK155.out 1).trans rfl⟩ (fun hHeld => ?_)
              clear hK K
              refine norm_ (a' := ?_) ?_ ?_
              rotate_left
              ·show Act.put _ (some 11) _ = _
               simp only [Act.put, List.setIfInBounds_toArray, List.set_cons_zero, List.set_cons_succ, i64_w, i32_w]
               rfl
              exact norm_ (by first | (simp only [putAll, Act.put, List.setIfInBounds_toArray, List.set_cons_zero, List.set_cons_succ]; done) | (simp only [putAll, Act.put, List.setIfInBounds_toArray, List.set_cons_zero, List.set_cons_succ]; rfl)) (hJ10 (gb166) _ ⟨hHeld, (by exact BK152.out), (by exact BK153.out), (by exact BK154.out), (by exact BK155.out), (by exact BK166.out), GW166.out, GE166.out, NB152_166.out, NB166_152.out, NB153_166.out, NB166_153.out, NB154_166.out, NB166_154.out, NB155_166.out, NB166_155.out, (by repeat (first | (with_reducible first | exact HB.out | apply below_alloc | apply pw_below_drewN | apply below_drew1 | refine below_set ?_ GE152.out | refine below_set ?_ GE153.out | refine below_set ?_ GE154.out | refine below_set ?_ GE155.out | refine below_set ?_ GE166.out) | exact HB.out))⟩)
            ·skip
             rintro gb166 w24 ⟨hS_, h0_, h1_, h2_, h3_, h4_, h5_, h6_, h7_, h8_, h9_, h10_, h11_, h12_, h13_, h14_, h15_⟩
             have n0_ : Aside0 (w24.heap[gb152]? = some (.cells #[.int .i64 a0_0, .int .i64 a0_1] 23 (0, 0))) := ⟨h0_⟩
             have n1_ : Aside0 (w24.heap[gb153]? = some (.cells #[.int .i64 a1_0, .int .i64 a1_1] 23 (0, 0))) := ⟨h1_⟩
             have n2_ : Aside0 (w24.heap[gb154]? = some (.cells #[.int .i64 a2_0, .int .i64 a2_1] 23 (0, 0))) := ⟨h2_⟩
             have n3_ : Aside0 (w24.heap[gb155]? = some (.cells #[.int .i64 a3_0, .int .i64 a3_1] 23 (0, 0))) := ⟨h3_⟩
             have n4_ : Aside0 (w24.heap[gb166]? = some (.cells #[.int .i64 0, .int .i64 0] 24 (0, 0))) := ⟨h4_⟩
             have n5_ : Aside0 (w.heap.size ≤ gb166) := ⟨h5_⟩
             have n6_ : Aside0 (w.heap.size ≤ gb166) := ⟨h6_⟩
             have n7_ : Aside0 (gb152 ≠ gb166) := ⟨h7_⟩
             have n8_ : Aside0 (gb166 ≠ gb152) := ⟨h8_⟩
             have n9_ : Aside0 (gb153 ≠ gb166) := ⟨h9_⟩
             have n10_ : Aside0 (gb166 ≠ gb153) := ⟨h10_⟩
             have n11_ : Aside0 (gb154 ≠ gb166) := ⟨h11_⟩
             have n12_ : Aside0 (gb166 ≠ gb154) := ⟨h12_⟩
             have n13_ : Aside0 (gb155 ≠ gb166) := ⟨h13_⟩
             have n14_ : Aside0 (gb166 ≠ gb155) := ⟨h14_⟩
             have n15_ : Aside0 (Below w.heap.size w w24) := ⟨h15_⟩
             clear BK152
             clear BK153
             clear BK154
             clear BK155
             clear HB
             clear h0_ h1_ h2_ h3_ h4_ h5_ h6_ h7_ h8_ h9_ h10_ h11_ h12_ h13_ h14_ h15_
             have BK152 := n0_
             have BK153 := n1_
             have BK154 := n2_
             have BK155 := n3_
             have BK166 := n4_
             have GW166 := n5_
             have GE166 := n6_
             have NB152_166 := n7_
             have NB166_152 := n8_
             have NB153_166 := n9_
             have NB166_153 := n10_
             have NB154_166 := n11_
             have NB166_154 := n12_
             have NB155_166 := n13_
             have NB166_155 := n14_
             have HB := n15_
             clear n0_ n1_ n2_ n3_ n4_ n5_ n6_ n7_ n8_ n9_ n10_ n11_ n12_ n13_ n14_ n15_
             have hHeld : w24.cell? ⟨gb152, 0, none⟩ = some (.int .i64 a0_0) ∧ w24.cell? ⟨gb152, 1, none⟩ = some (.int .i64 a0_1) ∧ w24.cell? ⟨gb153, 0, none⟩ = some (.int .i64 a1_0) ∧ w24.cell? ⟨gb153, 1, none⟩ = some (.int .i64 a1_1) ∧ w24.cell? ⟨gb154, 0, none⟩ = some (.int .i64 a2_0) ∧ w24.cell? ⟨gb154, 1, none⟩ = some (.int .i64 a2_1) ∧ w24.cell? ⟨gb155, 0, none⟩ = some (.int .i64 a3_0) ∧ w24.cell? ⟨gb155, 1, none⟩ = some (.int .i64 a3_1) := hS_
             refine norm_ (a' := ?_) ?_ ?_
             rotate_left
             ·simp only [putAll, Act.put, List.setIfInBounds_toArray, List.set_cons_zero, List.set_cons_succ]
              rfl
             refine one_ (i := 1) (N := some 14) #[true, true, true, false, true, false, true, false, true, false, true, false] rfl rfl (one_of HT_.out (by kernel_rfl)) (by decide) (fun K hK => ?_)
             refine goes_ Try.func15 (by kernel_rfl) rfl #[.agg #[.int .i64 a0_0, .int .i64 a0_1]] (by rfl) rfl rfl (by (try simp only [List.map_toArray, List.map_cons, List.map_nil]); first | done | rfl | (simp only [List.length_drop, List.length_take]; rfl)) ?_
             with_reducible refine (laws_toPoint.calls a0_0 a0_1 t156 t157 _ A6.out).mono ?_
             rintro e w25 ⟨rfl, hb⟩
             refine ⟨_, rfl, ?_⟩
             have n0_ := Aside0.mk (blk_below (g := gb152) (o := .cells #[.int .i64 a0_0, .int .i64 a0_1] 23 (0, 0)) (by exact BK152.out) hb)
             have n1_ := Aside0.mk (blk_below (g := gb153) (o := .cells #[.int .i64 a1_0, .int .i64 a1_1] 23 (0, 0)) (by exact BK153.out) hb)
             have n2_ := Aside0.mk (blk_below (g := gb154) (o := .cells #[.int .i64 a2_0, .int .i64 a2_1] 23 (0, 0)) (by exact BK154.out) hb)
             have n3_ := Aside0.mk (blk_below (g := gb155) (o := .cells #[.int .i64 a3_0, .int .i64 a3_1] 23 (0, 0)) (by exact BK155.out) hb)
             have n4_ := Aside0.mk (blk_below (g := gb166) (o := .cells #[.int .i64 0, .int .i64 0] 24 (0, 0)) (by exact BK166.out) hb)
             have n5_ := Aside0.mk (below_step (by repeat (first | (with_reducible first | exact HB.out | apply below_alloc | apply pw_below_drewN | apply below_drew1 | refine below_set ?_ GE152.out | refine below_set ?_ GE153.out | refine below_set ?_ GE154.out | refine below_set ?_ GE155.out | refine below_set ?_ GE166.out) | exact HB.out)) hb)
             clear BK152
             clear BK153
             clear BK154
             clear BK155
             clear BK166
             clear HB
             have BK152 := n0_
             have BK153 := n1_
             have BK154 := n2_
             have BK155 := n3_
             have BK166 := n4_
             have HB := n5_
             clear n0_ n1_ n2_ n3_ n4_ n5_
             (try clear hb)
             (try clear hb2)
             (try clear hk)
             (try clear hi)
             refine hK.out _ _ ⟨(blk_cell BK152.out 0).trans rfl, (blk_cell BK152.out 1).trans rfl, (blk_cell BK153.out 0).trans rfl, (blk_cell BK153.out 1).trans rfl, (blk_cell BK154.out 0).trans rfl, (blk_cell BK154.out 1).trans rfl, (blk_cell BK155.out 0).trans rfl, (blk_cell BK155.out 1).trans rfl⟩ (fun hHeld => ?_)
             clear hK K
             refine norm_ (a' := ?_) ?_ ?_
             rotate_left
             ·show Act.put _ (some 14) _ = _
              simp only [Act.put, List.setIfInBounds_toArray, List.set_cons_zero, List.set_cons_succ, i64_w, i32_w]
              rfl
             exact norm_ (by first | (simp only [putAll, Act.put, List.setIfInBounds_toArray, List.set_cons_zero, List.set_cons_succ]; done) | (simp only [putAll, Act.put, List.setIfInBounds_toArray, List.set_cons_zero, List.set_cons_succ]; rfl)) (hJ1_10 (gb166) _ ⟨hHeld, (by exact BK152.out), (by exact BK153.out), (by exact BK154.out), (by exact BK155.out), (by exact BK166.out), GW166.out, GE166.out, NB152_166.out, NB166_152.out, NB153_166.out, NB166_153.out, NB154_166.out, NB166_154.out, NB155_166.out, NB166_155.out, (by repeat (first | (with_reducible first | exact HB.out | apply below_alloc | apply pw_below_drewN | apply below_drew1 | refine below_set ?_ GE152.out | refine below_set ?_ GE153.out | refine below_set ?_ GE154.out | refine below_set ?_ GE155.out | refine below_set ?_ GE166.out) | exact HB.out))⟩)
           ·skip
            rintro _ w24 ⟨hS_, h0_, h1_, h2_, h3_, h4_⟩
            have n0_ : Aside0 (w24.heap[gb152]? = some (.cells #[.int .i64 a0_0, .int .i64 a0_1] 23 (0, 0))) := ⟨h0_⟩
            have n1_ : Aside0 (w24.heap[gb153]? = some (.cells #[.int .i64 a1_0, .int .i64 a1_1] 23 (0, 0))) := ⟨h1_⟩
            have n2_ : Aside0 (w24.heap[gb154]? = some (.cells #[.int .i64 a2_0, .int .i64 a2_1] 23 (0, 0))) := ⟨h2_⟩
            have n3_ : Aside0 (w24.heap[gb155]? = some (.cells #[.int .i64 a3_0, .int .i64 a3_1] 23 (0, 0))) := ⟨h3_⟩
            have n4_ : Aside0 (Below w.heap.size w w24) := ⟨h4_⟩
            clear BK152
            clear BK153
            clear BK154
            clear BK155
            clear HB
            clear h0_ h1_ h2_ h3_ h4_
            have BK152 := n0_
            have BK153 := n1_
            have BK154 := n2_
            have BK155 := n3_
            have HB := n4_
            clear n0_ n1_ n2_ n3_ n4_
            have hHeld : w24.cell? ⟨gb152, 0, none⟩ = some (.int .i64 a0_0) ∧ w24.cell? ⟨gb152, 1, none⟩ = some (.int .i64 a0_1) ∧ w24.cell? ⟨gb153, 0, none⟩ = some (.int .i64 a1_0) ∧ w24.cell? ⟨gb153, 1, none⟩ = some (.int .i64 a1_1) ∧ w24.cell? ⟨gb154, 0, none⟩ = some (.int .i64 a2_0) ∧ w24.cell? ⟨gb154, 1, none⟩ = some (.int .i64 a2_1) ∧ w24.cell? ⟨gb155, 0, none⟩ = some (.int .i64 a3_0) ∧ w24.cell? ⟨gb155, 1, none⟩ = some (.int .i64 a3_1) := hS_
            refine norm_ (a' := ?_) ?_ ?_
            rotate_left
            ·simp only [putAll, Act.put, List.setIfInBounds_toArray, List.set_cons_zero, List.set_cons_succ]
             rfl
            refine two_ (i := 3) (j := 10) (Ni := some 16) (Nj := some 11) #[true, true, true, true, true, false, true, false, true, false, false, false] #[true, true, true, false, true, false, true, false, true, false, true, false] rfl rfl rfl rfl (two_of HT_.out (by kernel_rfl)) (by decide) (by decide) (fun K hK => ?_) (fun K hK => ?_)
            ·skip
             refine goes_ Try.func15 (by kernel_rfl) rfl #[.agg #[.int .i64 a1_0, .int .i64 a1_1]] (by rfl) rfl rfl (by (try simp only [List.map_toArray, List.map_cons, List.map_nil]); first | done | rfl | (simp only [List.length_drop, List.length_take]; rfl)) ?_
             with_reducible refine (laws_toPoint.calls a1_0 a1_1 t158 t159 _ A7.out).mono ?_
             rintro e w25 ⟨rfl, hb⟩
             refine ⟨_, rfl, ?_⟩
             have n0_ := Aside0.mk (blk_below (g := gb152) (o := .cells #[.int .i64 a0_0, .int .i64 a0_1] 23 (0, 0)) (by exact BK152.out) hb)
             have n1_ := Aside0.mk (blk_below (g := gb153) (o := .cells #[.int .i64 a1_0, .int .i64 a1_1] 23 (0, 0)) (by exact BK153.out) hb)
             have n2_ := Aside0.mk (blk_below (g := gb154) (o := .cells #[.int .i64 a2_0, .int .i64 a2_1] 23 (0, 0)) (by exact BK154.out) hb)
             have n3_ := Aside0.mk (blk_below (g := gb155) (o := .cells #[.int .i64 a3_0, .int .i64 a3_1] 23 (0, 0)) (by exact BK155.out) hb)
             have n4_ := Aside0.mk (below_step (by repeat (first | (with_reducible first | exact HB.out | apply below_alloc | apply pw_below_drewN | apply below_drew1 | refine below_set ?_ GE152.out | refine below_set ?_ GE153.out | refine below_set ?_ GE154.out | refine below_set ?_ GE155.out) | exact HB.out)) hb)
             clear BK152
             clear BK153
             clear BK154
             clear BK155
             clear HB
             have BK152 := n0_
             have BK153 := n1_
             have BK154 := n2_
             have BK155 := n3_
             have HB := n4_
             clear n0_ n1_ n2_ n3_ n4_
             (try clear hb)
             (try clear hb2)
             (try clear hk)
             (try clear hi)
             refine hK.out _ _ ⟨(blk_cell BK152.out 0).trans rfl, (blk_cell BK152.out 1).trans rfl, (blk_cell BK153.out 0).trans rfl, (blk_cell BK153.out 1).trans rfl, (blk_cell BK154.out 0).trans rfl, (blk_cell BK154.out 1).trans rfl, (blk_cell BK155.out 0).trans rfl, (blk_cell BK155.out 1).trans rfl⟩ (fun hHeld => ?_)
             clear hK K
             refine norm_ (a' := ?_) ?_ ?_
             rotate_left
             ·show Act.put _ (some 16) _ = _
              simp only [Act.put, List.setIfInBounds_toArray, List.set_cons_zero, List.set_cons_succ, i64_w, i32_w]
              rfl
             exact norm_ (by first | (simp only [putAll, Act.put, List.setIfInBounds_toArray, List.set_cons_zero, List.set_cons_succ]; done) | (simp only [putAll, Act.put, List.setIfInBounds_toArray, List.set_cons_zero, List.set_cons_succ]; rfl)) (hJ1_3 () _ ⟨hHeld, (by exact BK152.out), (by exact BK153.out), (by exact BK154.out), (by exact BK155.out), (by repeat (first | (with_reducible first | exact HB.out | apply below_alloc | apply pw_below_drewN | apply below_drew1 | refine below_set ?_ GE152.out | refine below_set ?_ GE153.out | refine below_set ?_ GE154.out | refine below_set ?_ GE155.out) | exact HB.out))⟩)
            ·skip
             refine box_step ?hg (N := 11) ?hd (cs := #[.int .i64 0, .int .i64 0]) (t := 24) ?hr ?_; (case hd => rfl); (case hg => rfl); (case hr => first | (go_simp; done) | (go_simp; rfl))
             intro gb166 hg w25 hbox hb
             have n0_ := Aside0.mk (blk_below (g := gb152) (o := .cells #[.int .i64 a0_0, .int .i64 a0_1] 23 (0, 0)) (by exact BK152.out) hb)
             have n1_ := Aside0.mk (blk_below (g := gb153) (o := .cells #[.int .i64 a1_0, .int .i64 a1_1] 23 (0, 0)) (by exact BK153.out) hb)
             have n2_ := Aside0.mk (blk_below (g := gb154) (o := .cells #[.int .i64 a2_0, .int .i64 a2_1] 23 (0, 0)) (by exact BK154.out) hb)
             have n3_ := Aside0.mk (blk_below (g := gb155) (o := .cells #[.int .i64 a3_0, .int .i64 a3_1] 23 (0, 0)) (by exact BK155.out) hb)
             have n4_ := Aside0.mk (below_step (by repeat (first | (with_reducible first | exact HB.out | apply below_alloc | apply pw_below_drewN | apply below_drew1 | refine below_set ?_ GE152.out | refine below_set ?_ GE153.out | refine below_set ?_ GE154.out | refine below_set ?_ GE155.out) | exact HB.out)) hb)
             have n5_ := Aside0.mk (hbox)
             have n6_ := Aside0.mk ((by rw [hg]; exact (below_size (by repeat (first | (with_reducible first | exact HB.out | apply below_alloc | apply pw_below_drewN | apply below_drew1 | refine below_set ?_ GE152.out | refine below_set ?_ GE153.out | refine below_set ?_ GE154.out | refine below_set ?_ GE155.out) | exact HB.out))) : w.heap.size ≤ gb166))
             have n7_ := Aside0.mk ((by rw [hg]; exact (below_size (by repeat (first | (with_reducible first | exact HB.out | apply below_alloc | apply pw_below_drewN | apply below_drew1 | refine below_set ?_ GE152.out | refine below_set ?_ GE153.out | refine below_set ?_ GE154.out | refine below_set ?_ GE155.out) | exact HB.out))) : w.heap.size ≤ gb166))
             have n8_ := Aside0.mk ((by rw [hg]; exact Nat.ne_of_lt (blk_lt (g := gb152) (o := .cells #[.int .i64 a0_0, .int .i64 a0_1] 23 (0, 0)) (by exact BK152.out)) : gb152 ≠ gb166))
             have n9_ := Aside0.mk ((by rw [hg]; exact Nat.ne_of_gt (blk_lt (g := gb152) (o := .cells #[.int .i64 a0_0, .int .i64 a0_1] 23 (0, 0)) (by exact BK152.out)) : gb166 ≠ gb152))
             have n10_ := Aside0.mk ((by rw [hg]; exact Nat.ne_of_lt (blk_lt (g := gb153) (o := .cells #[.int .i64 a1_0, .int .i64 a1_1] 23 (0, 0)) (by exact BK153.out)) : gb153 ≠ gb166))
             have n11_ := Aside0.mk ((by rw [hg]; exact Nat.ne_of_gt (blk_lt (g := gb153) (o := .cells #[.int .i64 a1_0, .int .i64 a1_1] 23 (0, 0)) (by exact BK153.out)) : gb166 ≠ gb153))
             have n12_ := Aside0.mk ((by rw [hg]; exact Nat.ne_of_lt (blk_lt (g := gb154) (o := .cells #[.int .i64 a2_0, .int .i64 a2_1] 23 (0, 0)) (by exact BK154.out)) : gb154 ≠ gb166))
             have n13_ := Aside0.mk ((by rw [hg]; exact Nat.ne_of_gt (blk_lt (g := gb154) (o := .cells #[.int .i64 a2_0, .int .i64 a2_1] 23 (0, 0)) (by exact BK154.out)) : gb166 ≠ gb154))
             have n14_ := Aside0.mk ((by rw [hg]; exact Nat.ne_of_lt (blk_lt (g := gb155) (o := .cells #[.int .i64 a3_0, .int .i64 a3_1] 23 (0, 0)) (by exact BK155.out)) : gb155 ≠ gb166))
             have n15_ := Aside0.mk ((by rw [hg]; exact Nat.ne_of_gt (blk_lt (g := gb155) (o := .cells #[.int .i64 a3_0, .int .i64 a3_1] 23 (0, 0)) (by exact BK155.out)) : gb166 ≠ gb155))
             clear BK152
             clear BK153
             clear BK154
             clear BK155
             clear HB
             have BK152 := n0_
             have BK153 := n1_
             have BK154 := n2_
             have BK155 := n3_
             have HB := n4_
             have BK166 := n5_
             have GW166 := n6_
             have GE166 := n7_
             have NB152_166 := n8_
             have NB166_152 := n9_
             have NB153_166 := n10_
             have NB166_153 := n11_
             have NB154_166 := n12_
             have NB166_154 := n13_
             have NB155_166 := n14_
             have NB166_155 := n15_
             clear n0_ n1_ n2_ n3_ n4_ n5_ n6_ n7_ n8_ n9_ n10_ n11_ n12_ n13_ n14_ n15_
             clear hb hbox hg
             refine hK.out _ _ ⟨(blk_cell BK152.out 0).trans rfl, (blk_cell BK152.out 1).trans rfl, (blk_cell BK153.out 0).trans rfl, (blk_cell BK153.out 1).trans rfl, (blk_cell BK154.out 0).trans rfl, (blk_cell BK154.out 1).trans rfl, (blk_cell BK155.out 0).trans rfl, (blk_cell BK155.out 1).trans rfl⟩ (fun hHeld => ?_)
             clear hK K
             refine norm_ (a' := ?_) ?_ ?_
             rotate_left
             ·show Act.put _ (some 11) _ = _
              simp only [Act.put, List.setIfInBounds_toArray, List.set_cons_zero, List.set_cons_succ, i64_w, i32_w]
              rfl
             exact norm_ (by first | (simp only [putAll, Act.put, List.setIfInBounds_toArray, List.set_cons_zero, List.set_cons_succ]; done) | (simp only [putAll, Act.put, List.setIfInBounds_toArray, List.set_cons_zero, List.set_cons_succ]; rfl)) (hJ1_10 (gb166) _ ⟨hHeld, (by exact BK152.out), (by exact BK153.out), (by exact BK154.out), (by exact BK155.out), (by exact BK166.out), GW166.out, GE166.out, NB152_166.out, NB166_152.out, NB153_166.out, NB166_153.out, NB154_166.out, NB166_154.out, NB155_166.out, NB166_155.out, (by repeat (first | (with_reducible first | exact HB.out | apply below_alloc | apply pw_below_drewN | apply below_drew1 | refine below_set ?_ GE152.out | refine below_set ?_ GE153.out | refine below_set ?_ GE154.out | refine below_set ?_ GE155.out | refine below_set ?_ GE166.out) | exact HB.out))⟩)
          ·skip
           rintro gb166 w25 ⟨hS_, h0_, h1_, h2_, h3_, h4_, h5_, h6_, h7_, h8_, h9_, h10_, h11_, h12_, h13_, h14_, h15_⟩
           have n0_ : Aside0 (w25.heap[gb152]? = some (.cells #[.int .i64 a0_0, .int .i64 a0_1] 23 (0, 0))) := ⟨h0_⟩
           have n1_ : Aside0 (w25.heap[gb153]? = some (.cells #[.int .i64 a1_0, .int .i64 a1_1] 23 (0, 0))) := ⟨h1_⟩
           have n2_ : Aside0 (w25.heap[gb154]? = some (.cells #[.int .i64 a2_0, .int .i64 a2_1] 23 (0, 0))) := ⟨h2_⟩
           have n3_ : Aside0 (w25.heap[gb155]? = some (.cells #[.int .i64 a3_0, .int .i64 a3_1] 23 (0, 0))) := ⟨h3_⟩
           have n4_ : Aside0 (w25.heap[gb166]? = some (.cells #[.int .i64 0, .int .i64 0] 24 (0, 0))) := ⟨h4_⟩
           have n5_ : Aside0 (w.heap.size ≤ gb166) := ⟨h5_⟩
           have n6_ : Aside0 (w.heap.size ≤ gb166) := ⟨h6_⟩
           have n7_ : Aside0 (gb152 ≠ gb166) := ⟨h7_⟩
           have n8_ : Aside0 (gb166 ≠ gb152) := ⟨h8_⟩
           have n9_ : Aside0 (gb153 ≠ gb166) := ⟨h9_⟩
           have n10_ : Aside0 (gb166 ≠ gb153) := ⟨h10_⟩
           have n11_ : Aside0 (gb154 ≠ gb166) := ⟨h11_⟩
           have n12_ : Aside0 (gb166 ≠ gb154) := ⟨h12_⟩
           have n13_ : Aside0 (gb155 ≠ gb166) := ⟨h13_⟩
           have n14_ : Aside0 (gb166 ≠ gb155) := ⟨h14_⟩
           have n15_ : Aside0 (Below w.heap.size w w25) := ⟨h15_⟩
           clear BK152
           clear BK153
           clear BK154
           clear BK155
           clear HB
           clear h0_ h1_ h2_ h3_ h4_ h5_ h6_ h7_ h8_ h9_ h10_ h11_ h12_ h13_ h14_ h15_
           have BK152 := n0_
           have BK153 := n1_
           have BK154 := n2_
           have BK155 := n3_
           have BK166 := n4_
           have GW166 := n5_
           have GE166 := n6_
           have NB152_166 := n7_
           have NB166_152 := n8_
           have NB153_166 := n9_
           have NB166_153 := n10_
           have NB154_166 := n11_
           have NB166_154 := n12_
           have NB155_166 := n13_
           have NB166_155 := n14_
           have HB := n15_
           clear n0_ n1_ n2_ n3_ n4_ n5_ n6_ n7_ n8_ n9_ n10_ n11_ n12_ n13_ n14_ n15_
           have hHeld : w25.cell? ⟨gb152, 0, none⟩ = some (.int .i64 a0_0) ∧ w25.cell? ⟨gb152, 1, none⟩ = some (.int .i64 a0_1) ∧ w25.cell? ⟨gb153, 0, none⟩ = some (.int .i64 a1_0) ∧ w25.cell? ⟨gb153, 1, none⟩ = some (.int .i64 a1_1) ∧ w25.cell? ⟨gb154, 0, none⟩ = some (.int .i64 a2_0) ∧ w25.cell? ⟨gb154, 1, none⟩ = some (.int .i64 a2_1) ∧ w25.cell? ⟨gb155, 0, none⟩ = some (.int .i64 a3_0) ∧ w25.cell? ⟨gb155, 1, none⟩ = some (.int .i64 a3_1) := hS_
           refine norm_ (a' := ?_) ?_ ?_
           rotate_left
           ·simp only [putAll, Act.put, List.setIfInBounds_toArray, List.set_cons_zero, List.set_cons_succ]
            rfl
           refine one_ (i := 3) (N := some 16) #[true, true, true, true, true, false, true, false, true, false, true, false] rfl rfl (one_of HT_.out (by kernel_rfl)) (by decide) (fun K hK => ?_)
           refine goes_ Try.func15 (by kernel_rfl) rfl #[.agg #[.int .i64 a1_0, .int .i64 a1_1]] (by rfl) rfl rfl (by (try simp only [List.map_toArray, List.map_cons, List.map_nil]); first | done | rfl | (simp only [List.length_drop, List.length_take]; rfl)) ?_
           with_reducible refine (laws_toPoint.calls a1_0 a1_1 t158 t159 _ A7.out).mono ?_
           rintro e w26 ⟨rfl, hb⟩
           refine ⟨_, rfl, ?_⟩
           have n0_ := Aside0.mk (blk_below (g := gb152) (o := .cells #[.int .i64 a0_0, .int .i64 a0_1] 23 (0, 0)) (by exact BK152.out) hb)
           have n1_ := Aside0.mk (blk_below (g := gb153) (o := .cells #[.int .i64 a1_0, .int .i64 a1_1] 23 (0, 0)) (by exact BK153.out) hb)
           have n2_ := Aside0.mk (blk_below (g := gb154) (o := .cells #[.int .i64 a2_0, .int .i64 a2_1] 23 (0, 0)) (by exact BK154.out) hb)
           have n3_ := Aside0.mk (blk_below (g := gb155) (o := .cells #[.int .i64 a3_0, .int .i64 a3_1] 23 (0, 0)) (by exact BK155.out) hb)
           have n4_ := Aside0.mk (blk_below (g := gb166) (o := .cells #[.int .i64 0, .int .i64 0] 24 (0, 0)) (by exact BK166.out) hb)
           have n5_ := Aside0.mk (below_step (by repeat (first | (with_reducible first | exact HB.out | apply below_alloc | apply pw_below_drewN | apply below_drew1 | refine below_set ?_ GE152.out | refine below_set ?_ GE153.out | refine below_set ?_ GE154.out | refine below_set ?_ GE155.out | refine below_set ?_ GE166.out) | exact HB.out)) hb)
           clear BK152
           clear BK153
           clear BK154
           clear BK155
           clear BK166
           clear HB
           have BK152 := n0_
           have BK153 := n1_
           have BK154 := n2_
           have BK155 := n3_
           have BK166 := n4_
           have HB := n5_
           clear n0_ n1_ n2_ n3_ n4_ n5_
           (try clear hb)
           (try clear hb2)
           (try clear hk)
           (try clear hi)
           refine hK.out _ _ ⟨(blk_cell BK152.out 0).trans rfl, (blk_cell BK152.out 1).trans rfl, (blk_cell BK153.out 0).trans rfl, (blk_cell BK153.out 1).trans rfl, (blk_cell BK154.out 0).trans rfl, (blk_cell BK154.out 1).trans rfl, (blk_cell BK155.out 0).trans rfl, (blk_cell BK155.out 1).trans rfl⟩ (fun hHeld => ?_)
           clear hK K
           refine norm_ (a' := ?_) ?_ ?_
           rotate_left
           ·show Act.put _ (some 16) _ = _
            simp only [Act.put, List.setIfInBounds_toArray, List.set_cons_zero, List.set_cons_succ, i64_w, i32_w]
            rfl
           exact norm_ (by first | (simp only [putAll, Act.put, List.setIfInBounds_toArray, List.set_cons_zero, List.set_cons_succ]; done) | (simp only [putAll, Act.put, List.setIfInBounds_toArray, List.set_cons_zero, List.set_cons_succ]; rfl)) (hJ1_3_10 (gb166) _ ⟨hHeld, (by exact BK152.out), (by exact BK153.out), (by exact BK154.out), (by exact BK155.out), (by exact BK166.out), GW166.out, GE166.out, NB152_166.out, NB166_152.out, NB153_166.out, NB166_153.out, NB154_166.out, NB166_154.out, NB155_166.out, NB166_155.out, (by repeat (first | (with_reducible first | exact HB.out | apply below_alloc | apply pw_below_drewN | apply below_drew1 | refine below_set ?_ GE152.out | refine below_set ?_ GE153.out | refine below_set ?_ GE154.out | refine below_set ?_ GE155.out | refine below_set ?_ GE166.out) | exact HB.out))⟩)
         ·skip
          rintro _ w25 ⟨hS_, h0_, h1_, h2_, h3_, h4_⟩
          have n0_ : Aside0 (w25.heap[gb152]? = some (.cells #[.int .i64 a0_0, .int .i64 a0_1] 23 (0, 0))) := ⟨h0_⟩
          have n1_ : Aside0 (w25.heap[gb153]? = some (.cells #[.int .i64 a1_0, .int .i64 a1_1] 23 (0, 0))) := ⟨h1_⟩
          have n2_ : Aside0 (w25.heap[gb154]? = some (.cells #[.int .i64 a2_0, .int .i64 a2_1] 23 (0, 0))) := ⟨h2_⟩
          have n3_ : Aside0 (w25.heap[gb155]? = some (.cells #[.int .i64 a3_0, .int .i64 a3_1] 23 (0, 0))) := ⟨h3_⟩
          have n4_ : Aside0 (Below w.heap.size w w25) := ⟨h4_⟩
          clear BK152
          clear BK153
          clear BK154
          clear BK155
          clear HB
          clear h0_ h1_ h2_ h3_ h4_
          have BK152 := n0_
          have BK153 := n1_
          have BK154 := n2_
          have BK155 := n3_
          have HB := n4_
          clear n0_ n1_ n2_ n3_ n4_
          have hHeld : w25.cell? ⟨gb152, 0, none⟩ = some (.int .i64 a0_0) ∧ w25.cell? ⟨gb152, 1, none⟩ = some (.int .i64 a0_1) ∧ w25.cell? ⟨gb153, 0, none⟩ = some (.int .i64 a1_0) ∧ w25.cell? ⟨gb153, 1, none⟩ = some (.int .i64 a1_1) ∧ w25.cell? ⟨gb154, 0, none⟩ = some (.int .i64 a2_0) ∧ w25.cell? ⟨gb154, 1, none⟩ = some (.int .i64 a2_1) ∧ w25.cell? ⟨gb155, 0, none⟩ = some (.int .i64 a3_0) ∧ w25.cell? ⟨gb155, 1, none⟩ = some (.int .i64 a3_1) := hS_
          refine norm_ (a' := ?_) ?_ ?_
          rotate_left
          ·simp only [putAll, Act.put, List.setIfInBounds_toArray, List.set_cons_zero, List.set_cons_succ]
           rfl
          refine two_ (i := 5) (j := 10) (Ni := some 18) (Nj := some 11) #[true, true, true, true, true, true, true, false, true, false, false, false] #[true, true, true, true, true, false, true, false, true, false, true, false] rfl rfl rfl rfl (two_of HT_.out (by kernel_rfl)) (by decide) (by decide) (fun K hK => ?_) (fun K hK => ?_)
          ·skip
           refine goes_ Try.func15 (by kernel_rfl) rfl #[.agg #[.int .i64 a2_0, .int .i64 a2_1]] (by rfl) rfl rfl (by (try simp only [List.map_toArray, List.map_cons, List.map_nil]); first | done | rfl | (simp only [List.length_drop, List.length_take]; rfl)) ?_
           with_reducible refine (laws_toPoint.calls a2_0 a2_1 t160 t161 _ A8.out).mono ?_
           rintro e w26 ⟨rfl, hb⟩
           refine ⟨_, rfl, ?_⟩
           have n0_ := Aside0.mk (blk_below (g := gb152) (o := .cells #[.int .i64 a0_0, .int .i64 a0_1] 23 (0, 0)) (by exact BK152.out) hb)
           have n1_ := Aside0.mk (blk_below (g := gb153) (o := .cells #[.int .i64 a1_0, .int .i64 a1_1] 23 (0, 0)) (by exact BK153.out) hb)
           have n2_ := Aside0.mk (blk_below (g := gb154) (o := .cells #[.int .i64 a2_0, .int .i64 a2_1] 23 (0, 0)) (by exact BK154.out) hb)
           have n3_ := Aside0.mk (blk_below (g := gb155) (o := .cells #[.int .i64 a3_0, .int .i64 a3_1] 23 (0, 0)) (by exact BK155.out) hb)
           have n4_ := Aside0.mk (below_step (by repeat (first | (with_reducible first | exact HB.out | apply below_alloc | apply pw_below_drewN | apply below_drew1 | refine below_set ?_ GE152.out | refine below_set ?_ GE153.out | refine below_set ?_ GE154.out | refine below_set ?_ GE155.out) | exact HB.out)) hb)
           clear BK152
           clear BK153
           clear BK154
           clear BK155
           clear HB
           have BK152 := n0_
           have BK153 := n1_
           have BK154 := n2_
           have BK155 := n3_
           have HB := n4_
           clear n0_ n1_ n2_ n3_ n4_
           (try clear hb)
           (try clear hb2)
           (try clear hk)
           (try clear hi)
           refine hK.out _ _ ⟨(blk_cell BK152.out 0).trans rfl, (blk_cell BK152.out 1).trans rfl, (blk_cell BK153.out 0).trans rfl, (blk_cell BK153.out 1).trans rfl, (blk_cell BK154.out 0).trans rfl, (blk_cell BK154.out 1).trans rfl, (blk_cell BK155.out 0).trans rfl, (blk_cell BK155.out 1).trans rfl⟩ (fun hHeld => ?_)
           clear hK K
           refine norm_ (a' := ?_) ?_ ?_
           rotate_left
           ·show Act.put _ (some 18) _ = _
            simp only [Act.put, List.setIfInBounds_toArray, List.set_cons_zero, List.set_cons_succ, i64_w, i32_w]
            rfl
           exact norm_ (by first | (simp only [putAll, Act.put, List.setIfInBounds_toArray, List.set_cons_zero, List.set_cons_succ]; done) | (simp only [putAll, Act.put, List.setIfInBounds_toArray, List.set_cons_zero, List.set_cons_succ]; rfl)) (hJ1_3_5 () _ ⟨hHeld, (by exact BK152.out), (by exact BK153.out), (by exact BK154.out), (by exact BK155.out), (by repeat (first | (with_reducible first | exact HB.out | apply below_alloc | apply pw_below_drewN | apply below_drew1 | refine below_set ?_ GE152.out | refine below_set ?_ GE153.out | refine below_set ?_ GE154.out | refine below_set ?_ GE155.out) | exact HB.out))⟩)
          ·skip
           refine box_step ?hg (N := 11) ?hd (cs := #[.int .i64 0, .int .i64 0]) (t := 24) ?hr ?_; (case hd => rfl); (case hg => rfl); (case hr => first | (go_simp; done) | (go_simp; rfl))
           intro gb166 hg w26 hbox hb
           have n0_ := Aside0.mk (blk_below (g := gb152) (o := .cells #[.int .i64 a0_0, .int .i64 a0_1] 23 (0, 0)) (by exact BK152.out) hb)
           have n1_ := Aside0.mk (blk_below (g := gb153) (o := .cells #[.int .i64 a1_0, .int .i64 a1_1] 23 (0, 0)) (by exact BK153.out) hb)
           have n2_ := Aside0.mk (blk_below (g := gb154) (o := .cells #[.int .i64 a2_0, .int .i64 a2_1] 23 (0, 0)) (by exact BK154.out) hb)
           have n3_ := Aside0.mk (blk_below (g := gb155) (o := .cells #[.int .i64 a3_0, .int .i64 a3_1] 23 (0, 0)) (by exact BK155.out) hb)
           have n4_ := Aside0.mk (below_step (by repeat (first | (with_reducible first | exact HB.out | apply below_alloc | apply pw_below_drewN | apply below_drew1 | refine below_set ?_ GE152.out | refine below_set ?_ GE153.out | refine below_set ?_ GE154.out | refine below_set ?_ GE155.out) | exact HB.out)) hb)
           have n5_ := Aside0.mk (hbox)
           have n6_ := Aside0.mk ((by rw [hg]; exact (below_size (by repeat (first | (with_reducible first | exact HB.out | apply below_alloc | apply pw_below_drewN | apply below_drew1 | refine below_set ?_ GE152.out | refine below_set ?_ GE153.out | refine below_set ?_ GE154.out | refine below_set ?_ GE155.out) | exact HB.out))) : w.heap.size ≤ gb166))
           have n7_ := Aside0.mk ((by rw [hg]; exact (below_size (by repeat (first | (with_reducible first | exact HB.out | apply below_alloc | apply pw_below_drewN | apply below_drew1 | refine below_set ?_ GE152.out | refine below_set ?_ GE153.out | refine below_set ?_ GE154.out | refine below_set ?_ GE155.out) | exact HB.out))) : w.heap.size ≤ gb166))
           have n8_ := Aside0.mk ((by rw [hg]; exact Nat.ne_of_lt (blk_lt (g := gb152) (o := .cells #[.int .i64 a0_0, .int .i64 a0_1] 23 (0, 0)) (by exact BK152.out)) : gb152 ≠ gb166))
           have n9_ := Aside0.mk ((by rw [hg]; exact Nat.ne_of_gt (blk_lt (g := gb152) (o := .cells #[.int .i64 a0_0, .int .i64 a0_1] 23 (0, 0)) (by exact BK152.out)) : gb166 ≠ gb152))
           have n10_ := Aside0.mk ((by rw [hg]; exact Nat.ne_of_lt (blk_lt (g := gb153) (o := .cells #[.int .i64 a1_0, .int .i64 a1_1] 23 (0, 0)) (by exact BK153.out)) : gb153 ≠ gb166))
           have n11_ := Aside0.mk ((by rw [hg]; exact Nat.ne_of_gt (blk_lt (g := gb153) (o := .cells #[.int .i64 a1_0, .int .i64 a1_1] 23 (0, 0)) (by exact BK153.out)) : gb166 ≠ gb153))
           have n12_ := Aside0.mk ((by rw [hg]; exact Nat.ne_of_lt (blk_lt (g := gb154) (o := .cells #[.int .i64 a2_0, .int .i64 a2_1] 23 (0, 0)) (by exact BK154.out)) : gb154 ≠ gb166))
           have n13_ := Aside0.mk ((by rw [hg]; exact Nat.ne_of_gt (blk_lt (g := gb154) (o := .cells #[.int .i64 a2_0, .int .i64 a2_1] 23 (0, 0)) (by exact BK154.out)) : gb166 ≠ gb154))
           have n14_ := Aside0.mk ((by rw [hg]; exact Nat.ne_of_lt (blk_lt (g := gb155) (o := .cells #[.int .i64 a3_0, .int .i64 a3_1] 23 (0, 0)) (by exact BK155.out)) : gb155 ≠ gb166))
           have n15_ := Aside0.mk ((by rw [hg]; exact Nat.ne_of_gt (blk_lt (g := gb155) (o := .cells #[.int .i64 a3_0, .int .i64 a3_1] 23 (0, 0)) (by exact BK155.out)) : gb166 ≠ gb155))
           clear BK152
           clear BK153
           clear BK154
           clear BK155
           clear HB
           have BK152 := n0_
           have BK153 := n1_
           have BK154 := n2_
           have BK155 := n3_
           have HB := n4_
           have BK166 := n5_
           have GW166 := n6_
           have GE166 := n7_
           have NB152_166 := n8_
           have NB166_152 := n9_
           have NB153_166 := n10_
           have NB166_153 := n11_
           have NB154_166 := n12_
           have NB166_154 := n13_
           have NB155_166 := n14_
           have NB166_155 := n15_
           clear n0_ n1_ n2_ n3_ n4_ n5_ n6_ n7_ n8_ n9_ n10_ n11_ n12_ n13_ n14_ n15_
           clear hb hbox hg
           refine hK.out _ _ ⟨(blk_cell BK152.out 0).trans rfl, (blk_cell BK152.out 1).trans rfl, (blk_cell BK153.out 0).trans rfl, (blk_cell BK153.out 1).trans rfl, (blk_cell BK154.out 0).trans rfl, (blk_cell BK154.out 1).trans rfl, (blk_cell BK155.out 0).trans rfl, (blk_cell BK155.out 1).trans rfl⟩ (fun hHeld => ?_)
           clear hK K
           refine norm_ (a' := ?_) ?_ ?_
           rotate_left
           ·show Act.put _ (some 11) _ = _
            simp only [Act.put, List.setIfInBounds_toArray, List.set_cons_zero, List.set_cons_succ, i64_w, i32_w]
            rfl
           exact norm_ (by first | (simp only [putAll, Act.put, List.setIfInBounds_toArray, List.set_cons_zero, List.set_cons_succ]; done) | (simp only [putAll, Act.put, List.setIfInBounds_toArray, List.set_cons_zero, List.set_cons_succ]; rfl)) (hJ1_3_10 (gb166) _ ⟨hHeld, (by exact BK152.out), (by exact BK153.out), (by exact BK154.out), (by exact BK155.out), (by exact BK166.out), GW166.out, GE166.out, NB152_166.out, NB166_152.out, NB153_166.out, NB166_153.out, NB154_166.out, NB166_154.out, NB155_166.out, NB166_155.out, (by repeat (first | (with_reducible first | exact HB.out | apply below_alloc | apply pw_below_drewN | apply below_drew1 | refine below_set ?_ GE152.out | refine below_set ?_ GE153.out | refine below_set ?_ GE154.out | refine below_set ?_ GE155.out | refine below_set ?_ GE166.out) | exact HB.out))⟩)
        ·skip
         rintro gb166 w26 ⟨hS_, h0_, h1_, h2_, h3_, h4_, h5_, h6_, h7_, h8_, h9_, h10_, h11_, h12_, h13_, h14_, h15_⟩
         have n0_ : Aside0 (w26.heap[gb152]? = some (.cells #[.int .i64 a0_0, .int .i64 a0_1] 23 (0, 0))) := ⟨h0_⟩
         have n1_ : Aside0 (w26.heap[gb153]? = some (.cells #[.int .i64 a1_0, .int .i64 a1_1] 23 (0, 0))) := ⟨h1_⟩
         have n2_ : Aside0 (w26.heap[gb154]? = some (.cells #[.int .i64 a2_0, .int .i64 a2_1] 23 (0, 0))) := ⟨h2_⟩
         have n3_ : Aside0 (w26.heap[gb155]? = some (.cells #[.int .i64 a3_0, .int .i64 a3_1] 23 (0, 0))) := ⟨h3_⟩
         have n4_ : Aside0 (w26.heap[gb166]? = some (.cells #[.int .i64 0, .int .i64 0] 24 (0, 0))) := ⟨h4_⟩
         have n5_ : Aside0 (w.heap.size ≤ gb166) := ⟨h5_⟩
         have n6_ : Aside0 (w.heap.size ≤ gb166) := ⟨h6_⟩
         have n7_ : Aside0 (gb152 ≠ gb166) := ⟨h7_⟩
         have n8_ : Aside0 (gb166 ≠ gb152) := ⟨h8_⟩
         have n9_ : Aside0 (gb153 ≠ gb166) := ⟨h9_⟩
         have n10_ : Aside0 (gb166 ≠ gb153) := ⟨h10_⟩
         have n11_ : Aside0 (gb154 ≠ gb166) := ⟨h11_⟩
         have n12_ : Aside0 (gb166 ≠ gb154) := ⟨h12_⟩
         have n13_ : Aside0 (gb155 ≠ gb166) := ⟨h13_⟩
         have n14_ : Aside0 (gb166 ≠ gb155) := ⟨h14_⟩
         have n15_ : Aside0 (Below w.heap.size w w26) := ⟨h15_⟩
         clear BK152
         clear BK153
         clear BK154
         clear BK155
         clear HB
         clear h0_ h1_ h2_ h3_ h4_ h5_ h6_ h7_ h8_ h9_ h10_ h11_ h12_ h13_ h14_ h15_
         have BK152 := n0_
         have BK153 := n1_
         have BK154 := n2_
         have BK155 := n3_
         have BK166 := n4_
         have GW166 := n5_
         have GE166 := n6_
         have NB152_166 := n7_
         have NB166_152 := n8_
         have NB153_166 := n9_
         have NB166_153 := n10_
         have NB154_166 := n11_
         have NB166_154 := n12_
         have NB155_166 := n13_
         have NB166_155 := n14_
         have HB := n15_
         clear n0_ n1_ n2_ n3_ n4_ n5_ n6_ n7_ n8_ n9_ n10_ n11_ n12_ n13_ n14_ n15_
         have hHeld : w26.cell? ⟨gb152, 0, none⟩ = some (.int .i64 a0_0) ∧ w26.cell? ⟨gb152, 1, none⟩ = some (.int .i64 a0_1) ∧ w26.cell? ⟨gb153, 0, none⟩ = some (.int .i64 a1_0) ∧ w26.cell? ⟨gb153, 1, none⟩ = some (.int .i64 a1_1) ∧ w26.cell? ⟨gb154, 0, none⟩ = some (.int .i64 a2_0) ∧ w26.cell? ⟨gb154, 1, none⟩ = some (.int .i64 a2_1) ∧ w26.cell? ⟨gb155, 0, none⟩ = some (.int .i64 a3_0) ∧ w26.cell? ⟨gb155, 1, none⟩ = some (.int .i64 a3_1) := hS_
         refine norm_ (a' := ?_) ?_ ?_
         rotate_left
         ·simp only [putAll, Act.put, List.setIfInBounds_toArray, List.set_cons_zero, List.set_cons_succ]
          rfl
         refine one_ (i := 5) (N := some 18) #[true, true, true, true, true, true, true, false, true, false, true, false] rfl rfl (one_of HT_.out (by kernel_rfl)) (by decide) (fun K hK => ?_)
         refine goes_ Try.func15 (by kernel_rfl) rfl #[.agg #[.int .i64 a2_0, .int .i64 a2_1]] (by rfl) rfl rfl (by (try simp only [List.map_toArray, List.map_cons, List.map_nil]); first | done | rfl | (simp only [List.length_drop, List.length_take]; rfl)) ?_
         with_reducible refine (laws_toPoint.calls a2_0 a2_1 t160 t161 _ A8.out).mono ?_
         rintro e w27 ⟨rfl, hb⟩
         refine ⟨_, rfl, ?_⟩
         have n0_ := Aside0.mk (blk_below (g := gb152) (o := .cells #[.int .i64 a0_0, .int .i64 a0_1] 23 (0, 0)) (by exact BK152.out) hb)
         have n1_ := Aside0.mk (blk_below (g := gb153) (o := .cells #[.int .i64 a1_0, .int .i64 a1_1] 23 (0, 0)) (by exact BK153.out) hb)
         have n2_ := Aside0.mk (blk_below (g := gb154) (o := .cells #[.int .i64 a2_0, .int .i64 a2_1] 23 (0, 0)) (by exact BK154.out) hb)
         have n3_ := Aside0.mk (blk_below (g := gb155) (o := .cells #[.int .i64 a3_0, .int .i64 a3_1] 23 (0, 0)) (by exact BK155.out) hb)
         have n4_ := Aside0.mk (blk_below (g := gb166) (o := .cells #[.int .i64 0, .int .i64 0] 24 (0, 0)) (by exact BK166.out) hb)
         have n5_ := Aside0.mk (below_step (by repeat (first | (with_reducible first | exact HB.out | apply below_alloc | apply pw_below_drewN | apply below_drew1 | refine below_set ?_ GE152.out | refine below_set ?_ GE153.out | refine below_set ?_ GE154.out | refine below_set ?_ GE155.out | refine below_set ?_ GE166.out) | exact HB.out)) hb)
         clear BK152
         clear BK153
         clear BK154
         clear BK155
         clear BK166
         clear HB
         have BK152 := n0_
         have BK153 := n1_
         have BK154 := n2_
         have BK155 := n3_
         have BK166 := n4_
         have HB := n5_
         clear n0_ n1_ n2_ n3_ n4_ n5_
         (try clear hb)
         (try clear hb2)
         (try clear hk)
         (try clear hi)
         refine hK.out _ _ ⟨(blk_cell BK152.out 0).trans rfl, (blk_cell BK152.out 1).trans rfl, (blk_cell BK153.out 0).trans rfl, (blk_cell BK153.out 1).trans rfl, (blk_cell BK154.out 0).trans rfl, (blk_cell BK154.out 1).trans rfl, (blk_cell BK155.out 0).trans rfl, (blk_cell BK155.out 1).trans rfl⟩ (fun hHeld => ?_)
         clear hK K
         refine norm_ (a' := ?_) ?_ ?_
         rotate_left
         ·show Act.put _ (some 18) _ = _
          simp only [Act.put, List.setIfInBounds_toArray, List.set_cons_zero, List.set_cons_succ, i64_w, i32_w]
          rfl
         exact norm_ (by first | (simp only [putAll, Act.put, List.setIfInBounds_toArray, List.set_cons_zero, List.set_cons_succ]; done) | (simp only [putAll, Act.put, List.setIfInBounds_toArray, List.set_cons_zero, List.set_cons_succ]; rfl)) (hJ1_3_5_10 (gb166) _ ⟨hHeld, (by exact BK152.out), (by exact BK153.out), (by exact BK154.out), (by exact BK155.out), (by exact BK166.out), GW166.out, GE166.out, NB152_166.out, NB166_152.out, NB153_166.out, NB166_153.out, NB154_166.out, NB166_154.out, NB155_166.out, NB166_155.out, (by repeat (first | (with_reducible first | exact HB.out | apply below_alloc | apply pw_below_drewN | apply below_drew1 | refine below_set ?_ GE152.out | refine below_set ?_ GE153.out | refine below_set ?_ GE154.out | refine below_set ?_ GE155.out | refine below_set ?_ GE166.out) | exact HB.out))⟩)
       ·skip
        rintro _ w26 ⟨hS_, h0_, h1_, h2_, h3_, h4_⟩
        have n0_ : Aside0 (w26.heap[gb152]? = some (.cells #[.int .i64 a0_0, .int .i64 a0_1] 23 (0, 0))) := ⟨h0_⟩
        have n1_ : Aside0 (w26.heap[gb153]? = some (.cells #[.int .i64 a1_0, .int .i64 a1_1] 23 (0, 0))) := ⟨h1_⟩
        have n2_ : Aside0 (w26.heap[gb154]? = some (.cells #[.int .i64 a2_0, .int .i64 a2_1] 23 (0, 0))) := ⟨h2_⟩
        have n3_ : Aside0 (w26.heap[gb155]? = some (.cells #[.int .i64 a3_0, .int .i64 a3_1] 23 (0, 0))) := ⟨h3_⟩
        have n4_ : Aside0 (Below w.heap.size w w26) := ⟨h4_⟩
        clear BK152
        clear BK153
        clear BK154
        clear BK155
        clear HB
        clear h0_ h1_ h2_ h3_ h4_
        have BK152 := n0_
        have BK153 := n1_
        have BK154 := n2_
        have BK155 := n3_
        have HB := n4_
        clear n0_ n1_ n2_ n3_ n4_
        have hHeld : w26.cell? ⟨gb152, 0, none⟩ = some (.int .i64 a0_0) ∧ w26.cell? ⟨gb152, 1, none⟩ = some (.int .i64 a0_1) ∧ w26.cell? ⟨gb153, 0, none⟩ = some (.int .i64 a1_0) ∧ w26.cell? ⟨gb153, 1, none⟩ = some (.int .i64 a1_1) ∧ w26.cell? ⟨gb154, 0, none⟩ = some (.int .i64 a2_0) ∧ w26.cell? ⟨gb154, 1, none⟩ = some (.int .i64 a2_1) ∧ w26.cell? ⟨gb155, 0, none⟩ = some (.int .i64 a3_0) ∧ w26.cell? ⟨gb155, 1, none⟩ = some (.int .i64 a3_1) := hS_
        refine norm_ (a' := ?_) ?_ ?_
        rotate_left
        ·simp only [putAll, Act.put, List.setIfInBounds_toArray, List.set_cons_zero, List.set_cons_succ]
         rfl
        refine two_ (i := 7) (j := 10) (Ni := some 20) (Nj := some 11) #[true, true, true, true, true, true, true, true, true, false, false, false] #[true, true, true, true, true, true, true, false, true, false, true, false] rfl rfl rfl rfl (two_of HT_.out (by kernel_rfl)) (by decide) (by decide) (fun K hK => ?_) (fun K hK => ?_)
        ·skip
         refine goes_ Try.func15 (by kernel_rfl) rfl #[.agg #[.int .i64 a3_0, .int .i64 a3_1]] (by rfl) rfl rfl (by (try simp only [List.map_toArray, List.map_cons, List.map_nil]); first | done | rfl | (simp only [List.length_drop, List.length_take]; rfl)) ?_
         with_reducible refine (laws_toPoint.calls a3_0 a3_1 t162 t163 _ A9.out).mono ?_
         rintro e w27 ⟨rfl, hb⟩
         refine ⟨_, rfl, ?_⟩
         have n0_ := Aside0.mk (blk_below (g := gb152) (o := .cells #[.int .i64 a0_0, .int .i64 a0_1] 23 (0, 0)) (by exact BK152.out) hb)
         have n1_ := Aside0.mk (blk_below (g := gb153) (o := .cells #[.int .i64 a1_0, .int .i64 a1_1] 23 (0, 0)) (by exact BK153.out) hb)
         have n2_ := Aside0.mk (blk_below (g := gb154) (o := .cells #[.int .i64 a2_0, .int .i64 a2_1] 23 (0, 0)) (by exact BK154.out) hb)
         have n3_ := Aside0.mk (blk_below (g := gb155) (o := .cells #[.int .i64 a3_0, .int .i64 a3_1] 23 (0, 0)) (by exact BK155.out) hb)
         have n4_ := Aside0.mk (below_step (by repeat (first | (with_reducible first | exact HB.out | apply below_alloc | apply pw_below_drewN | apply below_drew1 | refine below_set ?_ GE152.out | refine below_set ?_ GE153.out | refine below_set ?_ GE154.out | refine below_set ?_ GE155.out) | exact HB.out)) hb)
         clear BK152
         clear BK153
         clear BK154
         clear BK155
         clear HB
         have BK152 := n0_
         have BK153 := n1_
         have BK154 := n2_
         have BK155 := n3_
         have HB := n4_
         clear n0_ n1_ n2_ n3_ n4_
         (try clear hb)
         (try clear hb2)
         (try clear hk)
         (try clear hi)
         refine hK.out _ _ ⟨(blk_cell BK152.out 0).trans rfl, (blk_cell BK152.out 1).trans rfl, (blk_cell BK153.out 0).trans rfl, (blk_cell BK153.out 1).trans rfl, (blk_cell BK154.out 0).trans rfl, (blk_cell BK154.out 1).trans rfl, (blk_cell BK155.out 0).trans rfl, (blk_cell BK155.out 1).trans rfl⟩ (fun hHeld => ?_)
         clear hK K
         refine norm_ (a' := ?_) ?_ ?_
         rotate_left
         ·show Act.put _ (some 20) _ = _
          simp only [Act.put, List.setIfInBounds_toArray, List.set_cons_zero, List.set_cons_succ, i64_w, i32_w]
          rfl
         exact norm_ (by first | (simp only [putAll, Act.put, List.setIfInBounds_toArray, List.set_cons_zero, List.set_cons_succ]; done) | (simp only [putAll, Act.put, List.setIfInBounds_toArray, List.set_cons_zero, List.set_cons_succ]; rfl)) (hJ1_3_5_7 () _ ⟨hHeld, (by exact BK152.out), (by exact BK153.out), (by exact BK154.out), (by exact BK155.out), (by repeat (first | (with_reducible first | exact HB.out | apply below_alloc | apply pw_below_drewN | apply below_drew1 | refine below_set ?_ GE152.out | refine below_set ?_ GE153.out | refine below_set ?_ GE154.out | refine below_set ?_ GE155.out) | exact HB.out))⟩)
        ·skip
         refine box_step ?hg (N := 11) ?hd (cs := #[.int .i64 0, .int .i64 0]) (t := 24) ?hr ?_; (case hd => rfl); (case hg => rfl); (case hr => first | (go_simp; done) | (go_simp; rfl))
         intro gb166 hg w27 hbox hb
         have n0_ := Aside0.mk (blk_below (g := gb152) (o := .cells #[.int .i64 a0_0, .int .i64 a0_1] 23 (0, 0)) (by exact BK152.out) hb)
         have n1_ := Aside0.mk (blk_below (g := gb153) (o := .cells #[.int .i64 a1_0, .int .i64 a1_1] 23 (0, 0)) (by exact BK153.out) hb)
         have n2_ := Aside0.mk (blk_below (g := gb154) (o := .cells #[.int .i64 a2_0, .int .i64 a2_1] 23 (0, 0)) (by exact BK154.out) hb)
         have n3_ := Aside0.mk (blk_below (g := gb155) (o := .cells #[.int .i64 a3_0, .int .i64 a3_1] 23 (0, 0)) (by exact BK155.out) hb)
         have n4_ := Aside0.mk (below_step (by repeat (first | (with_reducible first | exact HB.out | apply below_alloc | apply pw_below_drewN | apply below_drew1 | refine below_set ?_ GE152.out | refine below_set ?_ GE153.out | refine below_set ?_ GE154.out | refine below_set ?_ GE155.out) | exact HB.out)) hb)
         have n5_ := Aside0.mk (hbox)
         have n6_ := Aside0.mk ((by rw [hg]; exact (below_size (by repeat (first | (with_reducible first | exact HB.out | apply below_alloc | apply pw_below_drewN | apply below_drew1 | refine below_set ?_ GE152.out | refine below_set ?_ GE153.out | refine below_set ?_ GE154.out | refine below_set ?_ GE155.out) | exact HB.out))) : w.heap.size ≤ gb166))
         have n7_ := Aside0.mk ((by rw [hg]; exact (below_size (by repeat (first | (with_reducible first | exact HB.out | apply below_alloc | apply pw_below_drewN | apply below_drew1 | refine below_set ?_ GE152.out | refine below_set ?_ GE153.out | refine below_set ?_ GE154.out | refine below_set ?_ GE155.out) | exact HB.out))) : w.heap.size ≤ gb166))
         have n8_ := Aside0.mk ((by rw [hg]; exact Nat.ne_of_lt (blk_lt (g := gb152) (o := .cells #[.int .i64 a0_0, .int .i64 a0_1] 23 (0, 0)) (by exact BK152.out)) : gb152 ≠ gb166))
         have n9_ := Aside0.mk ((by rw [hg]; exact Nat.ne_of_gt (blk_lt (g := gb152) (o := .cells #[.int .i64 a0_0, .int .i64 a0_1] 23 (0, 0)) (by exact BK152.out)) : gb166 ≠ gb152))
         have n10_ := Aside0.mk ((by rw [hg]; exact Nat.ne_of_lt (blk_lt (g := gb153) (o := .cells #[.int .i64 a1_0, .int .i64 a1_1] 23 (0, 0)) (by exact BK153.out)) : gb153 ≠ gb166))
         have n11_ := Aside0.mk ((by rw [hg]; exact Nat.ne_of_gt (blk_lt (g := gb153) (o := .cells #[.int .i64 a1_0, .int .i64 a1_1] 23 (0, 0)) (by exact BK153.out)) : gb166 ≠ gb153))
         have n12_ := Aside0.mk ((by rw [hg]; exact Nat.ne_of_lt (blk_lt (g := gb154) (o := .cells #[.int .i64 a2_0, .int .i64 a2_1] 23 (0, 0)) (by exact BK154.out)) : gb154 ≠ gb166))
         have n13_ := Aside0.mk ((by rw [hg]; exact Nat.ne_of_gt (blk_lt (g := gb154) (o := .cells #[.int .i64 a2_0, .int .i64 a2_1] 23 (0, 0)) (by exact BK154.out)) : gb166 ≠ gb154))
         have n14_ := Aside0.mk ((by rw [hg]; exact Nat.ne_of_lt (blk_lt (g := gb155) (o := .cells #[.int .i64 a3_0, .int .i64 a3_1] 23 (0, 0)) (by exact BK155.out)) : gb155 ≠ gb166))
         have n15_ := Aside0.mk ((by rw [hg]; exact Nat.ne_of_gt (blk_lt (g := gb155) (o := .cells #[.int .i64 a3_0, .int .i64 a3_1] 23 (0, 0)) (by exact BK155.out)) : gb166 ≠ gb155))
         clear BK152
         clear BK153
         clear BK154
         clear BK155
         clear HB
         have BK152 := n0_
         have BK153 := n1_
         have BK154 := n2_
         have BK155 := n3_
         have HB := n4_
         have BK166 := n5_
         have GW166 := n6_
         have GE166 := n7_
         have NB152_166 := n8_
         have NB166_152 := n9_
         have NB153_166 := n10_
         have NB166_153 := n11_
         have NB154_166 := n12_
         have NB166_154 := n13_
         have NB155_166 := n14_
         have NB166_155 := n15_
         clear n0_ n1_ n2_ n3_ n4_ n5_ n6_ n7_ n8_ n9_ n10_ n11_ n12_ n13_ n14_ n15_
         clear hb hbox hg
         refine hK.out _ _ ⟨(blk_cell BK152.out 0).trans rfl, (blk_cell BK152.out 1).trans rfl, (blk_cell BK153.out 0).trans rfl, (blk_cell BK153.out 1).trans rfl, (blk_cell BK154.out 0).trans rfl, (blk_cell BK154.out 1).trans rfl, (blk_cell BK155.out 0).trans rfl, (blk_cell BK155.out 1).trans rfl⟩ (fun hHeld => ?_)
         clear hK K
         refine norm_ (a' := ?_) ?_ ?_
         rotate_left
         ·show Act.put _ (some 11) _ = _
          simp only [Act.put, List.setIfInBounds_toArray, List.set_cons_zero, List.set_cons_succ, i64_w, i32_w]
          rfl
         exact norm_ (by first | (simp only [putAll, Act.put, List.setIfInBounds_toArray, List.set_cons_zero, List.set_cons_succ]; done) | (simp only [putAll, Act.put, List.setIfInBounds_toArray, List.set_cons_zero, List.set_cons_succ]; rfl)) (hJ1_3_5_10 (gb166) _ ⟨hHeld, (by exact BK152.out), (by exact BK153.out), (by exact BK154.out), (by exact BK155.out), (by exact BK166.out), GW166.out, GE166.out, NB152_166.out, NB166_152.out, NB153_166.out, NB166_153.out, NB154_166.out, NB166_154.out, NB155_166.out, NB166_155.out, (by repeat (first | (with_reducible first | exact HB.out | apply below_alloc | apply pw_below_drewN | apply below_drew1 | refine below_set ?_ GE152.out | refine below_set ?_ GE153.out | refine below_set ?_ GE154.out | refine below_set ?_ GE155.out | refine below_set ?_ GE166.out) | exact HB.out))⟩)
      ·skip
       rintro gb166 w27 ⟨hS_, h0_, h1_, h2_, h3_, h4_, h5_, h6_, h7_, h8_, h9_, h10_, h11_, h12_, h13_, h14_, h15_⟩
       have n0_ : Aside0 (w27.heap[gb152]? = some (.cells #[.int .i64 a0_0, .int .i64 a0_1] 23 (0, 0))) := ⟨h0_⟩
       have n1_ : Aside0 (w27.heap[gb153]? = some (.cells #[.int .i64 a1_0, .int .i64 a1_1] 23 (0, 0))) := ⟨h1_⟩
       have n2_ : Aside0 (w27.heap[gb154]? = some (.cells #[.int .i64 a2_0, .int .i64 a2_1] 23 (0, 0))) := ⟨h2_⟩
       have n3_ : Aside0 (w27.heap[gb155]? = some (.cells #[.int .i64 a3_0, .int .i64 a3_1] 23 (0, 0))) := ⟨h3_⟩
       have n4_ : Aside0 (w27.heap[gb166]? = some (.cells #[.int .i64 0, .int .i64 0] 24 (0, 0))) := ⟨h4_⟩
       have n5_ : Aside0 (w.heap.size ≤ gb166) := ⟨h5_⟩
       have n6_ : Aside0 (w.heap.size ≤ gb166) := ⟨h6_⟩
       have n7_ : Aside0 (gb152 ≠ gb166) := ⟨h7_⟩
       have n8_ : Aside0 (gb166 ≠ gb152) := ⟨h8_⟩
       have n9_ : Aside0 (gb153 ≠ gb166) := ⟨h9_⟩
       have n10_ : Aside0 (gb166 ≠ gb153) := ⟨h10_⟩
       have n11_ : Aside0 (gb154 ≠ gb166) := ⟨h11_⟩
       have n12_ : Aside0 (gb166 ≠ gb154) := ⟨h12_⟩
       have n13_ : Aside0 (gb155 ≠ gb166) := ⟨h13_⟩
       have n14_ : Aside0 (gb166 ≠ gb155) := ⟨h14_⟩
       have n15_ : Aside0 (Below w.heap.size w w27) := ⟨h15_⟩
       clear BK152
       clear BK153
       clear BK154
       clear BK155
       clear HB
       clear h0_ h1_ h2_ h3_ h4_ h5_ h6_ h7_ h8_ h9_ h10_ h11_ h12_ h13_ h14_ h15_
       have BK152 := n0_
       have BK153 := n1_
       have BK154 := n2_
       have BK155 := n3_
       have BK166 := n4_
       have GW166 := n5_
       have GE166 := n6_
       have NB152_166 := n7_
       have NB166_152 := n8_
       have NB153_166 := n9_
       have NB166_153 := n10_
       have NB154_166 := n11_
       have NB166_154 := n12_
       have NB155_166 := n13_
       have NB166_155 := n14_
       have HB := n15_
       clear n0_ n1_ n2_ n3_ n4_ n5_ n6_ n7_ n8_ n9_ n10_ n11_ n12_ n13_ n14_ n15_
       have hHeld : w27.cell? ⟨gb152, 0, none⟩ = some (.int .i64 a0_0) ∧ w27.cell? ⟨gb152, 1, none⟩ = some (.int .i64 a0_1) ∧ w27.cell? ⟨gb153, 0, none⟩ = some (.int .i64 a1_0) ∧ w27.cell? ⟨gb153, 1, none⟩ = some (.int .i64 a1_1) ∧ w27.cell? ⟨gb154, 0, none⟩ = some (.int .i64 a2_0) ∧ w27.cell? ⟨gb154, 1, none⟩ = some (.int .i64 a2_1) ∧ w27.cell? ⟨gb155, 0, none⟩ = some (.int .i64 a3_0) ∧ w27.cell? ⟨gb155, 1, none⟩ = some (.int .i64 a3_1) := hS_
       refine norm_ (a' := ?_) ?_ ?_
       rotate_left
       ·simp only [putAll, Act.put, List.setIfInBounds_toArray, List.set_cons_zero, List.set_cons_succ]
        rfl
       refine one_ (i := 7) (N := some 20) #[true, true, true, true, true, true, true, true, true, false, true, false] rfl rfl (one_of HT_.out (by kernel_rfl)) (by decide) (fun K hK => ?_)
       refine goes_ Try.func15 (by kernel_rfl) rfl #[.agg #[.int .i64 a3_0, .int .i64 a3_1]] (by rfl) rfl rfl (by (try simp only [List.map_toArray, List.map_cons, List.map_nil]); first | done | rfl | (simp only [List.length_drop, List.length_take]; rfl)) ?_
       with_reducible refine (laws_toPoint.calls a3_0 a3_1 t162 t163 _ A9.out).mono ?_
       rintro e w28 ⟨rfl, hb⟩
       refine ⟨_, rfl, ?_⟩
       have n0_ := Aside0.mk (blk_below (g := gb152) (o := .cells #[.int .i64 a0_0, .int .i64 a0_1] 23 (0, 0)) (by exact BK152.out) hb)
       have n1_ := Aside0.mk (blk_below (g := gb153) (o := .cells #[.int .i64 a1_0, .int .i64 a1_1] 23 (0, 0)) (by exact BK153.out) hb)
       have n2_ := Aside0.mk (blk_below (g := gb154) (o := .cells #[.int .i64 a2_0, .int .i64 a2_1] 23 (0, 0)) (by exact BK154.out) hb)
       have n3_ := Aside0.mk (blk_below (g := gb155) (o := .cells #[.int .i64 a3_0, .int .i64 a3_1] 23 (0, 0)) (by exact BK155.out) hb)
       have n4_ := Aside0.mk (blk_below (g := gb166) (o := .cells #[.int .i64 0, .int .i64 0] 24 (0, 0)) (by exact BK166.out) hb)
       have n5_ := Aside0.mk (below_step (by repeat (first | (with_reducible first | exact HB.out | apply below_alloc | apply pw_below_drewN | apply below_drew1 | refine below_set ?_ GE152.out | refine below_set ?_ GE153.out | refine below_set ?_ GE154.out | refine below_set ?_ GE155.out | refine below_set ?_ GE166.out) | exact HB.out)) hb)
       clear BK152
       clear BK153
       clear BK154
       clear BK155
       clear BK166
       clear HB
       have BK152 := n0_
       have BK153 := n1_
       have BK154 := n2_
       have BK155 := n3_
       have BK166 := n4_
       have HB := n5_
       clear n0_ n1_ n2_ n3_ n4_ n5_
       (try clear hb)
       (try clear hb2)
       (try clear hk)
       (try clear hi)
       refine hK.out _ _ ⟨(blk_cell BK152.out 0).trans rfl, (blk_cell BK152.out 1).trans rfl, (blk_cell BK153.out 0).trans rfl, (blk_cell BK153.out 1).trans rfl, (blk_cell BK154.out 0).trans rfl, (blk_cell BK154.out 1).trans rfl, (blk_cell BK155.out 0).trans rfl, (blk_cell BK155.out 1).trans rfl⟩ (fun hHeld => ?_)
       clear hK K
       refine norm_ (a' := ?_) ?_ ?_
       rotate_left
       ·show Act.put _ (some 20) _ = _
        simp only [Act.put, List.setIfInBounds_toArray, List.set_cons_zero, List.set_cons_succ, i64_w, i32_w]
        rfl
       exact norm_ (by first | (simp only [putAll, Act.put, List.setIfInBounds_toArray, List.set_cons_zero, List.set_cons_succ]; done) | (simp only [putAll, Act.put, List.setIfInBounds_toArray, List.set_cons_zero, List.set_cons_succ]; rfl)) (hJ1_3_5_7_10 (gb166) _ ⟨hHeld, (by exact BK152.out), (by exact BK153.out), (by exact BK154.out), (by exact BK155.out), (by exact BK166.out), GW166.out, GE166.out, NB152_166.out, NB166_152.out, NB153_166.out, NB166_153.out, NB154_166.out, NB166_154.out, NB155_166.out, NB166_155.out, (by repeat (first | (with_reducible first | exact HB.out | apply below_alloc | apply pw_below_drewN | apply below_drew1 | refine below_set ?_ GE152.out | refine below_set ?_ GE153.out | refine below_set ?_ GE154.out | refine below_set ?_ GE155.out | refine below_set ?_ GE166.out) | exact HB.out))⟩)
     ·skip
      rintro _ w27 ⟨hS_, h0_, h1_, h2_, h3_, h4_⟩
      have n0_ : Aside0 (w27.heap[gb152]? = some (.cells #[.int .i64 a0_0, .int .i64 a0_1] 23 (0, 0))) := ⟨h0_⟩
      have n1_ : Aside0 (w27.heap[gb153]? = some (.cells #[.int .i64 a1_0, .int .i64 a1_1] 23 (0, 0))) := ⟨h1_⟩
      have n2_ : Aside0 (w27.heap[gb154]? = some (.cells #[.int .i64 a2_0, .int .i64 a2_1] 23 (0, 0))) := ⟨h2_⟩
      have n3_ : Aside0 (w27.heap[gb155]? = some (.cells #[.int .i64 a3_0, .int .i64 a3_1] 23 (0, 0))) := ⟨h3_⟩
      have n4_ : Aside0 (Below w.heap.size w w27) := ⟨h4_⟩
      clear BK152
      clear BK153
      clear BK154
      clear BK155
      clear HB
      clear h0_ h1_ h2_ h3_ h4_
      have BK152 := n0_
      have BK153 := n1_
      have BK154 := n2_
      have BK155 := n3_
      have HB := n4_
      clear n0_ n1_ n2_ n3_ n4_
      have hHeld : w27.cell? ⟨gb152, 0, none⟩ = some (.int .i64 a0_0) ∧ w27.cell? ⟨gb152, 1, none⟩ = some (.int .i64 a0_1) ∧ w27.cell? ⟨gb153, 0, none⟩ = some (.int .i64 a1_0) ∧ w27.cell? ⟨gb153, 1, none⟩ = some (.int .i64 a1_1) ∧ w27.cell? ⟨gb154, 0, none⟩ = some (.int .i64 a2_0) ∧ w27.cell? ⟨gb154, 1, none⟩ = some (.int .i64 a2_1) ∧ w27.cell? ⟨gb155, 0, none⟩ = some (.int .i64 a3_0) ∧ w27.cell? ⟨gb155, 1, none⟩ = some (.int .i64 a3_1) := hS_
      refine norm_ (a' := ?_) ?_ ?_
      rotate_left
      ·simp only [putAll, Act.put, List.setIfInBounds_toArray, List.set_cons_zero, List.set_cons_succ]
       rfl
      refine two_ (i := 9) (j := 10) (Ni := some 22) (Nj := some 11) #[true, true, true, true, true, true, true, true, true, true, false, false] #[true, true, true, true, true, true, true, true, true, false, true, false] rfl rfl rfl rfl (two_of HT_.out (by kernel_rfl)) (by decide) (by decide) (fun K hK => ?_) (fun K hK => ?_)
      ·skip
       refine goes_ Try.func18 (by kernel_rfl) rfl #[.agg #[.int .i64 t156, .int .i64 t157], .agg #[.int .i64 t158, .int .i64 t159], .agg #[.int .i64 t160, .int .i64 t161], .agg #[.int .i64 t162, .int .i64 t163], .int .i64 a4] (by rfl) rfl rfl (by (try simp only [List.map_toArray, List.map_cons, List.map_nil]); first | done | rfl | (simp only [List.length_drop, List.length_take]; rfl)) ?_
       with_reducible refine (spec_CubicAt.calls k t156 t157 t158 t159 t160 t161 t162 t163 a4 t164 t165 _ A10.out).mono ?_
       rintro e w28 ⟨rfl, hb⟩
       refine ⟨_, rfl, ?_⟩
       have n0_ := Aside0.mk (blk_below (g := gb152) (o := .cells #[.int .i64 a0_0, .int .i64 a0_1] 23 (0, 0)) (by exact BK152.out) hb)
       have n1_ := Aside0.mk (blk_below (g := gb153) (o := .cells #[.int .i64 a1_0, .int .i64 a1_1] 23 (0, 0)) (by exact BK153.out) hb)
       have n2_ := Aside0.mk (blk_below (g := gb154) (o := .cells #[.int .i64 a2_0, .int .i64 a2_1] 23 (0, 0)) (by exact BK154.out) hb)
       have n3_ := Aside0.mk (blk_below (g := gb155) (o := .cells #[.int .i64 a3_0, .int .i64 a3_1] 23 (0, 0)) (by exact BK155.out) hb)
       have n4_ := Aside0.mk (below_step (by repeat (first | (with_reducible first | exact HB.out | apply below_alloc | apply pw_below_drewN | apply below_drew1 | refine below_set ?_ GE152.out | refine below_set ?_ GE153.out | refine below_set ?_ GE154.out | refine below_set ?_ GE155.out) | exact HB.out)) hb)
       clear BK152
       clear BK153
       clear BK154
       clear BK155
       clear HB
       have BK152 := n0_
       have BK153 := n1_
       have BK154 := n2_
       have BK155 := n3_
       have HB := n4_
       clear n0_ n1_ n2_ n3_ n4_
       (try clear hb)
       (try clear hb2)
       (try clear hk)
       (try clear hi)
       refine hK.out _ _ ⟨(blk_cell BK152.out 0).trans rfl, (blk_cell BK152.out 1).trans rfl, (blk_cell BK153.out 0).trans rfl, (blk_cell BK153.out 1).trans rfl, (blk_cell BK154.out 0).trans rfl, (blk_cell BK154.out 1).trans rfl, (blk_cell BK155.out 0).trans rfl, (blk_cell BK155.out 1).trans rfl⟩ (fun hHeld => ?_)
       clear hK K
       refine norm_ (a' := ?_) ?_ ?_
       rotate_left
       ·show Act.put _ (some 22) _ = _
        simp only [Act.put, List.setIfInBounds_toArray, List.set_cons_zero, List.set_cons_succ, i64_w, i32_w]
        rfl
       exact norm_ (by first | (simp only [putAll, Act.put, List.setIfInBounds_toArray, List.set_cons_zero, List.set_cons_succ]; done) | (simp only [putAll, Act.put, List.setIfInBounds_toArray, List.set_cons_zero, List.set_cons_succ]; rfl)) (hJ1_3_5_7_9 () _ ⟨hHeld, (by exact BK152.out), (by exact BK153.out), (by exact BK154.out), (by exact BK155.out), (by repeat (first | (with_reducible first | exact HB.out | apply below_alloc | apply pw_below_drewN | apply below_drew1 | refine below_set ?_ GE152.out | refine below_set ?_ GE153.out | refine below_set ?_ GE154.out | refine below_set ?_ GE155.out) | exact HB.out))⟩)
      ·skip
       refine box_step ?hg (N := 11) ?hd (cs := #[.int .i64 0, .int .i64 0]) (t := 24) ?hr ?_; (case hd => rfl); (case hg => rfl); (case hr => first | (go_simp; done) | (go_simp; rfl))
       intro gb166 hg w28 hbox hb
       have n0_ := Aside0.mk (blk_below (g := gb152) (o := .cells #[.int .i64 a0_0, .int .i64 a0_1] 23 (0, 0)) (by exact BK152.out) hb)
       have n1_ := Aside0.mk (blk_below (g := gb153) (o := .cells #[.int .i64 a1_0, .int .i64 a1_1] 23 (0, 0)) (by exact BK153.out) hb)
       have n2_ := Aside0.mk (blk_below (g := gb154) (o := .cells #[.int .i64 a2_0, .int .i64 a2_1] 23 (0, 0)) (by exact BK154.out) hb)
       have n3_ := Aside0.mk (blk_below (g := gb155) (o := .cells #[.int .i64 a3_0, .int .i64 a3_1] 23 (0, 0)) (by exact BK155.out) hb)
       have n4_ := Aside0.mk (below_step (by repeat (first | (with_reducible first | exact HB.out | apply below_alloc | apply pw_below_drewN | apply below_drew1 | refine below_set ?_ GE152.out | refine below_set ?_ GE153.out | refine below_set ?_ GE154.out | refine below_set ?_ GE155.out) | exact HB.out)) hb)
       have n5_ := Aside0.mk (hbox)
       have n6_ := Aside0.mk ((by rw [hg]; exact (below_size (by repeat (first | (with_reducible first | exact HB.out | apply below_alloc | apply pw_below_drewN | apply below_drew1 | refine below_set ?_ GE152.out | refine below_set ?_ GE153.out | refine below_set ?_ GE154.out | refine below_set ?_ GE155.out) | exact HB.out))) : w.heap.size ≤ gb166))
       have n7_ := Aside0.mk ((by rw [hg]; exact (below_size (by repeat (first | (with_reducible first | exact HB.out | apply below_alloc | apply pw_below_drewN | apply below_drew1 | refine below_set ?_ GE152.out | refine below_set ?_ GE153.out | refine below_set ?_ GE154.out | refine below_set ?_ GE155.out) | exact HB.out))) : w.heap.size ≤ gb166))
       have n8_ := Aside0.mk ((by rw [hg]; exact Nat.ne_of_lt (blk_lt (g := gb152) (o := .cells #[.int .i64 a0_0, .int .i64 a0_1] 23 (0, 0)) (by exact BK152.out)) : gb152 ≠ gb166))
       have n9_ := Aside0.mk ((by rw [hg]; exact Nat.ne_of_gt (blk_lt (g := gb152) (o := .cells #[.int .i64 a0_0, .int .i64 a0_1] 23 (0, 0)) (by exact BK152.out)) : gb166 ≠ gb152))
       have n10_ := Aside0.mk ((by rw [hg]; exact Nat.ne_of_lt (blk_lt (g := gb153) (o := .cells #[.int .i64 a1_0, .int .i64 a1_1] 23 (0, 0)) (by exact BK153.out)) : gb153 ≠ gb166))
       have n11_ := Aside0.mk ((by rw [hg]; exact Nat.ne_of_gt (blk_lt (g := gb153) (o := .cells #[.int .i64 a1_0, .int .i64 a1_1] 23 (0, 0)) (by exact BK153.out)) : gb166 ≠ gb153))
       have n12_ := Aside0.mk ((by rw [hg]; exact Nat.ne_of_lt (blk_lt (g := gb154) (o := .cells #[.int .i64 a2_0, .int .i64 a2_1] 23 (0, 0)) (by exact BK154.out)) : gb154 ≠ gb166))
       have n13_ := Aside0.mk ((by rw [hg]; exact Nat.ne_of_gt (blk_lt (g := gb154) (o := .cells #[.int .i64 a2_0, .int .i64 a2_1] 23 (0, 0)) (by exact BK154.out)) : gb166 ≠ gb154))
       have n14_ := Aside0.mk ((by rw [hg]; exact Nat.ne_of_lt (blk_lt (g := gb155) (o := .cells #[.int .i64 a3_0, .int .i64 a3_1] 23 (0, 0)) (by exact BK155.out)) : gb155 ≠ gb166))
       have n15_ := Aside0.mk ((by rw [hg]; exact Nat.ne_of_gt (blk_lt (g := gb155) (o := .cells #[.int .i64 a3_0, .int .i64 a3_1] 23 (0, 0)) (by exact BK155.out)) : gb166 ≠ gb155))
       clear BK152
       clear BK153
       clear BK154
       clear BK155
       clear HB
       have BK152 := n0_
       have BK153 := n1_
       have BK154 := n2_
       have BK155 := n3_
       have HB := n4_
       have BK166 := n5_
       have GW166 := n6_
       have GE166 := n7_
       have NB152_166 := n8_
       have NB166_152 := n9_
       have NB153_166 := n10_
       have NB166_153 := n11_
       have NB154_166 := n12_
       have NB166_154 := n13_
       have NB155_166 := n14_
       have NB166_155 := n15_
       clear n0_ n1_ n2_ n3_ n4_ n5_ n6_ n7_ n8_ n9_ n10_ n11_ n12_ n13_ n14_ n15_
       clear hb hbox hg
       refine hK.out _ _ ⟨(blk_cell BK152.out 0).trans rfl, (blk_cell BK152.out 1).trans rfl, (blk_cell BK153.out 0).trans rfl, (blk_cell BK153.out 1).trans rfl, (blk_cell BK154.out 0).trans rfl, (blk_cell BK154.out 1).trans rfl, (blk_cell BK155.out 0).trans rfl, (blk_cell BK155.out 1).trans rfl⟩ (fun hHeld => ?_)
       clear hK K
       refine norm_ (a' := ?_) ?_ ?_
       rotate_left
       ·show Act.put _ (some 11) _ = _
        simp only [Act.put, List.setIfInBounds_toArray, List.set_cons_zero, List.set_cons_succ, i64_w, i32_w]
        rfl
       exact norm_ (by first | (simp only [putAll, Act.put, List.setIfInBounds_toArray, List.set_cons_zero, List.set_cons_succ]; done) | (simp only [putAll, Act.put, List.setIfInBounds_toArray, List.set_cons_zero, List.set_cons_succ]; rfl)) (hJ1_3_5_7_10 (gb166) _ ⟨hHeld, (by exact BK152.out), (by exact BK153.out), (by exact BK154.out), (by exact BK155.out), (by exact BK166.out), GW166.out, GE166.out, NB152_166.out, NB166_152.out, NB153_166.out, NB166_153.out, NB154_166.out, NB166_154.out, NB155_166.out, NB166_155.out, (by repeat (first | (with_reducible first | exact HB.out | apply below_alloc | apply pw_below_drewN | apply below_drew1 | refine below_set ?_ GE152.out | refine below_set ?_ GE153.out | refine below_set ?_ GE154.out | refine below_set ?_ GE155.out | refine below_set ?_ GE166.out) | exact HB.out))⟩)
    ·skip
     rintro gb166 w28 ⟨hS_, h0_, h1_, h2_, h3_, h4_, h5_, h6_, h7_, h8_, h9_, h10_, h11_, h12_, h13_, h14_, h15_⟩
     have n0_ : Aside0 (w28.heap[gb152]? = some (.cells #[.int .i64 a0_0, .int .i64 a0_1] 23 (0, 0))) := ⟨h0_⟩
     have n1_ : Aside0 (w28.heap[gb153]? = some (.cells #[.int .i64 a1_0, .int .i64 a1_1] 23 (0, 0))) := ⟨h1_⟩
     have n2_ : Aside0 (w28.heap[gb154]? = some (.cells #[.int .i64 a2_0, .int .i64 a2_1] 23 (0, 0))) := ⟨h2_⟩
     have n3_ : Aside0 (w28.heap[gb155]? = some (.cells #[.int .i64 a3_0, .int .i64 a3_1] 23 (0, 0))) := ⟨h3_⟩
     have n4_ : Aside0 (w28.heap[gb166]? = some (.cells #[.int .i64 0, .int .i64 0] 24 (0, 0))) := ⟨h4_⟩
     have n5_ : Aside0 (w.heap.size ≤ gb166) := ⟨h5_⟩
     have n6_ : Aside0 (w.heap.size ≤ gb166) := ⟨h6_⟩
     have n7_ : Aside0 (gb152 ≠ gb166) := ⟨h7_⟩
     have n8_ : Aside0 (gb166 ≠ gb152) := ⟨h8_⟩
     have n9_ : Aside0 (gb153 ≠ gb166) := ⟨h9_⟩
     have n10_ : Aside0 (gb166 ≠ gb153) := ⟨h10_⟩
     have n11_ : Aside0 (gb154 ≠ gb166) := ⟨h11_⟩
     have n12_ : Aside0 (gb166 ≠ gb154) := ⟨h12_⟩
     have n13_ : Aside0 (gb155 ≠ gb166) := ⟨h13_⟩
     have n14_ : Aside0 (gb166 ≠ gb155) := ⟨h14_⟩
     have n15_ : Aside0 (Below w.heap.size w w28) := ⟨h15_⟩
     clear BK152
     clear BK153
     clear BK154
     clear BK155
     clear HB
     clear h0_ h1_ h2_ h3_ h4_ h5_ h6_ h7_ h8_ h9_ h10_ h11_ h12_ h13_ h14_ h15_
     have BK152 := n0_
     have BK153 := n1_
     have BK154 := n2_
     have BK155 := n3_
     have BK166 := n4_
     have GW166 := n5_
     have GE166 := n6_
     have NB152_166 := n7_
     have NB166_152 := n8_
     have NB153_166 := n9_
     have NB166_153 := n10_
     have NB154_166 := n11_
     have NB166_154 := n12_
     have NB155_166 := n13_
     have NB166_155 := n14_
     have HB := n15_
     clear n0_ n1_ n2_ n3_ n4_ n5_ n6_ n7_ n8_ n9_ n10_ n11_ n12_ n13_ n14_ n15_
     have hHeld : w28.cell? ⟨gb152, 0, none⟩ = some (.int .i64 a0_0) ∧ w28.cell? ⟨gb152, 1, none⟩ = some (.int .i64 a0_1) ∧ w28.cell? ⟨gb153, 0, none⟩ = some (.int .i64 a1_0) ∧ w28.cell? ⟨gb153, 1, none⟩ = some (.int .i64 a1_1) ∧ w28.cell? ⟨gb154, 0, none⟩ = some (.int .i64 a2_0) ∧ w28.cell? ⟨gb154, 1, none⟩ = some (.int .i64 a2_1) ∧ w28.cell? ⟨gb155, 0, none⟩ = some (.int .i64 a3_0) ∧ w28.cell? ⟨gb155, 1, none⟩ = some (.int .i64 a3_1) := hS_
     refine norm_ (a' := ?_) ?_ ?_
     rotate_left
     ·simp only [putAll, Act.put, List.setIfInBounds_toArray, List.set_cons_zero, List.set_cons_succ]
      rfl
     refine one_ (i := 9) (N := some 22) #[true, true, true, true, true, true, true, true, true, true, true, false] rfl rfl (one_of HT_.out (by kernel_rfl)) (by decide) (fun K hK => ?_)
     refine goes_ Try.func18 (by kernel_rfl) rfl #[.agg #[.int .i64 t156, .int .i64 t157], .agg #[.int .i64 t158, .int .i64 t159], .agg #[.int .i64 t160, .int .i64 t161], .agg #[.int .i64 t162, .int .i64 t163], .int .i64 a4] (by rfl) rfl rfl (by (try simp only [List.map_toArray, List.map_cons, List.map_nil]); first | done | rfl | (simp only [List.length_drop, List.length_take]; rfl)) ?_
     with_reducible refine (spec_CubicAt.calls k t156 t157 t158 t159 t160 t161 t162 t163 a4 t164 t165 _ A10.out).mono ?_
     rintro e w29 ⟨rfl, hb⟩
     refine ⟨_, rfl, ?_⟩
     have n0_ := Aside0.mk (blk_below (g := gb152) (o := .cells #[.int .i64 a0_0, .int .i64 a0_1] 23 (0, 0)) (by exact BK152.out) hb)
     have n1_ := Aside0.mk (blk_below (g := gb153) (o := .cells #[.int .i64 a1_0, .int .i64 a1_1] 23 (0, 0)) (by exact BK153.out) hb)
     have n2_ := Aside0.mk (blk_below (g := gb154) (o := .cells #[.int .i64 a2_0, .int .i64 a2_1] 23 (0, 0)) (by exact BK154.out) hb)
     have n3_ := Aside0.mk (blk_below (g := gb155) (o := .cells #[.int .i64 a3_0, .int .i64 a3_1] 23 (0, 0)) (by exact BK155.out) hb)
     have n4_ := Aside0.mk (blk_below (g := gb166) (o := .cells #[.int .i64 0, .int .i64 0] 24 (0, 0)) (by exact BK166.out) hb)
     have n5_ := Aside0.mk (below_step (by repeat (first | (with_reducible first | exact HB.out | apply below_alloc | apply pw_below_drewN | apply below_drew1 | refine below_set ?_ GE152.out | refine below_set ?_ GE153.out | refine below_set ?_ GE154.out | refine below_set ?_ GE155.out | refine below_set ?_ GE166.out) | exact HB.out)) hb)
     clear BK152
     clear BK153
     clear BK154
     clear BK155
     clear BK166
     clear HB
     have BK152 := n0_
     have BK153 := n1_
     have BK154 := n2_
     have BK155 := n3_
     have BK166 := n4_
     have HB := n5_
     clear n0_ n1_ n2_ n3_ n4_ n5_
     (try clear hb)
     (try clear hb2)
     (try clear hk)
     (try clear hi)
     refine hK.out _ _ ⟨(blk_cell BK152.out 0).trans rfl, (blk_cell BK152.out 1).trans rfl, (blk_cell BK153.out 0).trans rfl, (blk_cell BK153.out 1).trans rfl, (blk_cell BK154.out 0).trans rfl, (blk_cell BK154.out 1).trans rfl, (blk_cell BK155.out 0).trans rfl, (blk_cell BK155.out 1).trans rfl⟩ (fun hHeld => ?_)
     clear hK K
     refine norm_ (a' := ?_) ?_ ?_
     rotate_left
     ·show Act.put _ (some 22) _ = _
      simp only [Act.put, List.setIfInBounds_toArray, List.set_cons_zero, List.set_cons_succ, i64_w, i32_w]
      rfl
     exact norm_ (by first | (simp only [putAll, Act.put, List.setIfInBounds_toArray, List.set_cons_zero, List.set_cons_succ]; done) | (simp only [putAll, Act.put, List.setIfInBounds_toArray, List.set_cons_zero, List.set_cons_succ]; rfl)) (hJ1_3_5_7_9_10 (gb166) _ ⟨hHeld, (by exact BK152.out), (by exact BK153.out), (by exact BK154.out), (by exact BK155.out), (by exact BK166.out), GW166.out, GE166.out, NB152_166.out, NB166_152.out, NB153_166.out, NB166_153.out, NB154_166.out, NB166_154.out, NB155_166.out, NB166_155.out, (by repeat (first | (with_reducible first | exact HB.out | apply below_alloc | apply pw_below_drewN | apply below_drew1 | refine below_set ?_ GE152.out | refine below_set ?_ GE153.out | refine below_set ?_ GE154.out | refine below_set ?_ GE155.out | refine below_set ?_ GE166.out) | exact HB.out))⟩)
   ·skip
    rintro _ w28 ⟨hS_, h0_, h1_, h2_, h3_, h4_⟩
    have n0_ : Aside0 (w28.heap[gb152]? = some (.cells #[.int .i64 a0_0, .int .i64 a0_1] 23 (0, 0))) := ⟨h0_⟩
    have n1_ : Aside0 (w28.heap[gb153]? = some (.cells #[.int .i64 a1_0, .int .i64 a1_1] 23 (0, 0))) := ⟨h1_⟩
    have n2_ : Aside0 (w28.heap[gb154]? = some (.cells #[.int .i64 a2_0, .int .i64 a2_1] 23 (0, 0))) := ⟨h2_⟩
    have n3_ : Aside0 (w28.heap[gb155]? = some (.cells #[.int .i64 a3_0, .int .i64 a3_1] 23 (0, 0))) := ⟨h3_⟩
    have n4_ : Aside0 (Below w.heap.size w w28) := ⟨h4_⟩
    clear BK152
    clear BK153
    clear BK154
    clear BK155
    clear HB
    clear h0_ h1_ h2_ h3_ h4_
    have BK152 := n0_
    have BK153 := n1_
    have BK154 := n2_
    have BK155 := n3_
    have HB := n4_
    clear n0_ n1_ n2_ n3_ n4_
    have hHeld : w28.cell? ⟨gb152, 0, none⟩ = some (.int .i64 a0_0) ∧ w28.cell? ⟨gb152, 1, none⟩ = some (.int .i64 a0_1) ∧ w28.cell? ⟨gb153, 0, none⟩ = some (.int .i64 a1_0) ∧ w28.cell? ⟨gb153, 1, none⟩ = some (.int .i64 a1_1) ∧ w28.cell? ⟨gb154, 0, none⟩ = some (.int .i64 a2_0) ∧ w28.cell? ⟨gb154, 1, none⟩ = some (.int .i64 a2_1) ∧ w28.cell? ⟨gb155, 0, none⟩ = some (.int .i64 a3_0) ∧ w28.cell? ⟨gb155, 1, none⟩ = some (.int .i64 a3_1) := hS_
    refine norm_ (a' := ?_) ?_ ?_
    rotate_left
    ·simp only [putAll, Act.put, List.setIfInBounds_toArray, List.set_cons_zero, List.set_cons_succ]
     rfl
    refine one_ (i := 10) (N := some 11) #[true, true, true, true, true, true, true, true, true, true, true, false] rfl rfl (one_of HT_.out (by kernel_rfl)) (by decide) (fun K hK => ?_)
    refine box_step ?hg (N := 11) ?hd (cs := #[.int .i64 0, .int .i64 0]) (t := 24) ?hr ?_; (case hd => rfl); (case hg => rfl); (case hr => first | (go_simp; done) | (go_simp; rfl))
    intro gb166 hg w29 hbox hb
    have n0_ := Aside0.mk (blk_below (g := gb152) (o := .cells #[.int .i64 a0_0, .int .i64 a0_1] 23 (0, 0)) (by exact BK152.out) hb)
    have n1_ := Aside0.mk (blk_below (g := gb153) (o := .cells #[.int .i64 a1_0, .int .i64 a1_1] 23 (0, 0)) (by exact BK153.out) hb)
    have n2_ := Aside0.mk (blk_below (g := gb154) (o := .cells #[.int .i64 a2_0, .int .i64 a2_1] 23 (0, 0)) (by exact BK154.out) hb)
    have n3_ := Aside0.mk (blk_below (g := gb155) (o := .cells #[.int .i64 a3_0, .int .i64 a3_1] 23 (0, 0)) (by exact BK155.out) hb)
    have n4_ := Aside0.mk (below_step (by repeat (first | (with_reducible first | exact HB.out | apply below_alloc | apply pw_below_drewN | apply below_drew1 | refine below_set ?_ GE152.out | refine below_set ?_ GE153.out | refine below_set ?_ GE154.out | refine below_set ?_ GE155.out) | exact HB.out)) hb)
    have n5_ := Aside0.mk (hbox)
    have n6_ := Aside0.mk ((by rw [hg]; exact (below_size (by repeat (first | (with_reducible first | exact HB.out | apply below_alloc | apply pw_below_drewN | apply below_drew1 | refine below_set ?_ GE152.out | refine below_set ?_ GE153.out | refine below_set ?_ GE154.out | refine below_set ?_ GE155.out) | exact HB.out))) : w.heap.size ≤ gb166))
    have n7_ := Aside0.mk ((by rw [hg]; exact (below_size (by repeat (first | (with_reducible first | exact HB.out | apply below_alloc | apply pw_below_drewN | apply below_drew1 | refine below_set ?_ GE152.out | refine below_set ?_ GE153.out | refine below_set ?_ GE154.out | refine below_set ?_ GE155.out) | exact HB.out))) : w.heap.size ≤ gb166))
    have n8_ := Aside0.mk ((by rw [hg]; exact Nat.ne_of_lt (blk_lt (g := gb152) (o := .cells #[.int .i64 a0_0, .int .i64 a0_1] 23 (0, 0)) (by exact BK152.out)) : gb152 ≠ gb166))
    have n9_ := Aside0.mk ((by rw [hg]; exact Nat.ne_of_gt (blk_lt (g := gb152) (o := .cells #[.int .i64 a0_0, .int .i64 a0_1] 23 (0, 0)) (by exact BK152.out)) : gb166 ≠ gb152))
    have n10_ := Aside0.mk ((by rw [hg]; exact Nat.ne_of_lt (blk_lt (g := gb153) (o := .cells #[.int .i64 a1_0, .int .i64 a1_1] 23 (0, 0)) (by exact BK153.out)) : gb153 ≠ gb166))
    have n11_ := Aside0.mk ((by rw [hg]; exact Nat.ne_of_gt (blk_lt (g := gb153) (o := .cells #[.int .i64 a1_0, .int .i64 a1_1] 23 (0, 0)) (by exact BK153.out)) : gb166 ≠ gb153))
    have n12_ := Aside0.mk ((by rw [hg]; exact Nat.ne_of_lt (blk_lt (g := gb154) (o := .cells #[.int .i64 a2_0, .int .i64 a2_1] 23 (0, 0)) (by exact BK154.out)) : gb154 ≠ gb166))
    have n13_ := Aside0.mk ((by rw [hg]; exact Nat.ne_of_gt (blk_lt (g := gb154) (o := .cells #[.int .i64 a2_0, .int .i64 a2_1] 23 (0, 0)) (by exact BK154.out)) : gb166 ≠ gb154))
    have n14_ := Aside0.mk ((by rw [hg]; exact Nat.ne_of_lt (blk_lt (g := gb155) (o := .cells #[.int .i64 a3_0, .int .i64 a3_1] 23 (0, 0)) (by exact BK155.out)) : gb155 ≠ gb166))
    have n15_ := Aside0.mk ((by rw [hg]; exact Nat.ne_of_gt (blk_lt (g := gb155) (o := .cells #[.int .i64 a3_0, .int .i64 a3_1] 23 (0, 0)) (by exact BK155.out)) : gb166 ≠ gb155))
    clear BK152
    clear BK153
    clear BK154
    clear BK155
    clear HB
    have BK152 := n0_
    have BK153 := n1_
    have BK154 := n2_
    have BK155 := n3_
    have HB := n4_
    have BK166 := n5_
    have GW166 := n6_
    have GE166 := n7_
    have NB152_166 := n8_
    have NB166_152 := n9_
    have NB153_166 := n10_
    have NB166_153 := n11_
    have NB154_166 := n12_
    have NB166_154 := n13_
    have NB155_166 := n14_
    have NB166_155 := n15_
    clear n0_ n1_ n2_ n3_ n4_ n5_ n6_ n7_ n8_ n9_ n10_ n11_ n12_ n13_ n14_ n15_
    clear hb hbox hg
    refine hK.out _ _ ⟨(blk_cell BK152.out 0).trans rfl, (blk_cell BK152.out 1).trans rfl, (blk_cell BK153.out 0).trans rfl, (blk_cell BK153.out 1).trans rfl, (blk_cell BK154.out 0).trans rfl, (blk_cell BK154.out 1).trans rfl, (blk_cell BK155.out 0).trans rfl, (blk_cell BK155.out 1).trans rfl⟩ (fun hHeld => ?_)
    clear hK K
    refine norm_ (a' := ?_) ?_ ?_
    rotate_left
    ·show Act.put _ (some 11) _ = _
     simp only [Act.put, List.setIfInBounds_toArray, List.set_cons_zero, List.set_cons_succ, i64_w, i32_w]
     rfl
    exact norm_ (by first | (simp only [putAll, Act.put, List.setIfInBounds_toArray, List.set_cons_zero, List.set_cons_succ]; done) | (simp only [putAll, Act.put, List.setIfInBounds_toArray, List.set_cons_zero, List.set_cons_succ]; rfl)) (hJ1_3_5_7_9_10 (gb166) _ ⟨hHeld, (by exact BK152.out), (by exact BK153.out), (by exact BK154.out), (by exact BK155.out), (by exact BK166.out), GW166.out, GE166.out, NB152_166.out, NB166_152.out, NB153_166.out, NB166_153.out, NB154_166.out, NB166_154.out, NB155_166.out, NB166_155.out, (by repeat (first | (with_reducible first | exact HB.out | apply below_alloc | apply pw_below_drewN | apply below_drew1 | refine below_set ?_ GE152.out | refine below_set ?_ GE153.out | refine below_set ?_ GE154.out | refine below_set ?_ GE155.out | refine below_set ?_ GE166.out) | exact HB.out))⟩)
  rintro gb166 w29 ⟨hS_, h0_, h1_, h2_, h3_, h4_, h5_, h6_, h7_, h8_, h9_, h10_, h11_, h12_, h13_, h14_, h15_⟩
  have n0_ : Aside0 (w29.heap[gb152]? = some (.cells #[.int .i64 a0_0, .int .i64 a0_1] 23 (0, 0))) := ⟨h0_⟩
  have n1_ : Aside0 (w29.heap[gb153]? = some (.cells #[.int .i64 a1_0, .int .i64 a1_1] 23 (0, 0))) := ⟨h1_⟩
  have n2_ : Aside0 (w29.heap[gb154]? = some (.cells #[.int .i64 a2_0, .int .i64 a2_1] 23 (0, 0))) := ⟨h2_⟩
  have n3_ : Aside0 (w29.heap[gb155]? = some (.cells #[.int .i64 a3_0, .int .i64 a3_1] 23 (0, 0))) := ⟨h3_⟩
  have n4_ : Aside0 (w29.heap[gb166]? = some (.cells #[.int .i64 0, .int .i64 0] 24 (0, 0))) := ⟨h4_⟩
  have n5_ : Aside0 (w.heap.size ≤ gb166) := ⟨h5_⟩
  have n6_ : Aside0 (w.heap.size ≤ gb166) := ⟨h6_⟩
  have n7_ : Aside0 (gb152 ≠ gb166) := ⟨h7_⟩
  have n8_ : Aside0 (gb166 ≠ gb152) := ⟨h8_⟩
  have n9_ : Aside0 (gb153 ≠ gb166) := ⟨h9_⟩
  have n10_ : Aside0 (gb166 ≠ gb153) := ⟨h10_⟩
  have n11_ : Aside0 (gb154 ≠ gb166) := ⟨h11_⟩
  have n12_ : Aside0 (gb166 ≠ gb154) := ⟨h12_⟩
  have n13_ : Aside0 (gb155 ≠ gb166) := ⟨h13_⟩
  have n14_ : Aside0 (gb166 ≠ gb155) := ⟨h14_⟩
  have n15_ : Aside0 (Below w.heap.size w w29) := ⟨h15_⟩
  clear BK152
  clear BK153
  clear BK154
  clear BK155
  clear HB
  clear h0_ h1_ h2_ h3_ h4_ h5_ h6_ h7_ h8_ h9_ h10_ h11_ h12_ h13_ h14_ h15_
  have BK152 := n0_
  have BK153 := n1_
  have BK154 := n2_
  have BK155 := n3_
  have BK166 := n4_
  have GW166 := n5_
  have GE166 := n6_
  have NB152_166 := n7_
  have NB166_152 := n8_
  have NB153_166 := n9_
  have NB166_153 := n10_
  have NB154_166 := n11_
  have NB166_154 := n12_
  have NB155_166 := n13_
  have NB166_155 := n14_
  have HB := n15_
  clear n0_ n1_ n2_ n3_ n4_ n5_ n6_ n7_ n8_ n9_ n10_ n11_ n12_ n13_ n14_ n15_
  have hHeld : w29.cell? ⟨gb152, 0, none⟩ = some (.int .i64 a0_0) ∧ w29.cell? ⟨gb152, 1, none⟩ = some (.int .i64 a0_1) ∧ w29.cell? ⟨gb153, 0, none⟩ = some (.int .i64 a1_0) ∧ w29.cell? ⟨gb153, 1, none⟩ = some (.int .i64 a1_1) ∧ w29.cell? ⟨gb154, 0, none⟩ = some (.int .i64 a2_0) ∧ w29.cell? ⟨gb154, 1, none⟩ = some (.int .i64 a2_1) ∧ w29.cell? ⟨gb155, 0, none⟩ = some (.int .i64 a3_0) ∧ w29.cell? ⟨gb155, 1, none⟩ = some (.int .i64 a3_1) := hS_
  refine norm_ (a' := ?_) ?_ ?_
  rotate_left
  ·simp only [putAll, Act.put, List.setIfInBounds_toArray, List.set_cons_zero, List.set_cons_succ]
   rfl
  refine one_ (i := 11) (N := none) #[true, true, true, true, true, true, true, true, true, true, true, true] rfl rfl (one_of HT_.out (by kernel_rfl)) (by decide) (fun K hK => ?_)
  have hs30 : w29.cell? ⟨gb166, 0, none⟩ = some (.int .i64 0) := (blk_cell BK166.out 0).trans rfl
  have hfs30 := blk_frozen BK166.out 0
  have hns30_0 := NB152_166.out
  have hns30_1 := NB153_166.out
  have hns30_2 := NB154_166.out
  have hns30_3 := NB155_166.out
  have hms30_0 := NB166_152.out
  have hms30_1 := NB166_153.out
  have hms30_2 := NB166_154.out
  have hms30_3 := NB166_155.out
  have hs31 : w29.cell? ⟨gb166, 1, none⟩ = some (.int .i64 0) := (blk_cell BK166.out 1).trans rfl
  have hfs31 := blk_frozen BK166.out 1
  have hns31_0 := NB152_166.out
  have hns31_1 := NB153_166.out
  have hns31_2 := NB154_166.out
  have hns31_3 := NB155_166.out
  have hms31_0 := NB166_152.out
  have hms31_1 := NB166_153.out
  have hms31_2 := NB166_154.out
  have hms31_3 := NB166_155.out
  refine skip_ (w1 := ?_) (by rfl) rfl ?_ ?_
  rotate_left
  ·go_simp
   rfl
  refine hK.out _ _ ⟨((cell_far (p := ⟨gb166, _, none⟩) NB152_166.out _).trans (((cell_far (p := ⟨gb166, _, none⟩) NB152_166.out _).trans (hHeld.1)))), ((cell_far (p := ⟨gb166, _, none⟩) NB152_166.out _).trans (((cell_far (p := ⟨gb166, _, none⟩) NB152_166.out _).trans (hHeld.2.1)))), ((cell_far (p := ⟨gb166, _, none⟩) NB153_166.out _).trans (((cell_far (p := ⟨gb166, _, none⟩) NB153_166.out _).trans (hHeld.2.2.1)))), ((cell_far (p := ⟨gb166, _, none⟩) NB153_166.out _).trans (((cell_far (p := ⟨gb166, _, none⟩) NB153_166.out _).trans (hHeld.2.2.2.1)))), ((cell_far (p := ⟨gb166, _, none⟩) NB154_166.out _).trans (((cell_far (p := ⟨gb166, _, none⟩) NB154_166.out _).trans (hHeld.2.2.2.2.1)))), ((cell_far (p := ⟨gb166, _, none⟩) NB154_166.out _).trans (((cell_far (p := ⟨gb166, _, none⟩) NB154_166.out _).trans (hHeld.2.2.2.2.2.1)))), ((cell_far (p := ⟨gb166, _, none⟩) NB155_166.out _).trans (((cell_far (p := ⟨gb166, _, none⟩) NB155_166.out _).trans (hHeld.2.2.2.2.2.2.1)))), ((cell_far (p := ⟨gb166, _, none⟩) NB155_166.out _).trans (((cell_far (p := ⟨gb166, _, none⟩) NB155_166.out _).trans (hHeld.2.2.2.2.2.2.2))))⟩ (fun hHeld => ?_)
  clear hK K
  refine done_ (done_of HT_.out (by kernel_rfl)) ?_
  try go_wp2
  have n0_ : Aside0 (((w29.setCell ⟨gb166, 0, none⟩ (.int .i64 t164)).setCell ⟨gb166, 1, none⟩ (.int .i64 t165)).heap[gb152]? = some (.cells #[.int .i64 a0_0, .int .i64 a0_1] 23 (0, 0))) := ⟨by (with_reducible repeat (first | refine blk_drewN ?_ _ | refine blk_drew ?_ | refine blk_alloc ?_ _)); refine blk_far ?_ NB152_166.out _; (with_reducible repeat (first | refine blk_drewN ?_ _ | refine blk_drew ?_ | refine blk_alloc ?_ _)); refine blk_far ?_ NB152_166.out _; (with_reducible repeat (first | refine blk_drewN ?_ _ | refine blk_drew ?_ | refine blk_alloc ?_ _)); exact BK152.out⟩
  have n1_ : Aside0 (((w29.setCell ⟨gb166, 0, none⟩ (.int .i64 t164)).setCell ⟨gb166, 1, none⟩ (.int .i64 t165)).heap[gb153]? = some (.cells #[.int .i64 a1_0, .int .i64 a1_1] 23 (0, 0))) := ⟨by (with_reducible repeat (first | refine blk_drewN ?_ _ | refine blk_drew ?_ | refine blk_alloc ?_ _)); refine blk_far ?_ NB153_166.out _; (with_reducible repeat (first | refine blk_drewN ?_ _ | refine blk_drew ?_ | refine blk_alloc ?_ _)); refine blk_far ?_ NB153_166.out _; (with_reducible repeat (first | refine blk_drewN ?_ _ | refine blk_drew ?_ | refine blk_alloc ?_ _)); exact BK153.out⟩
  have n2_ : Aside0 (((w29.setCell ⟨gb166, 0, none⟩ (.int .i64 t164)).setCell ⟨gb166, 1, none⟩ (.int .i64 t165)).heap[gb154]? = some (.cells #[.int .i64 a2_0, .int .i64 a2_1] 23 (0, 0))) := ⟨by (with_reducible repeat (first | refine blk_drewN ?_ _ | refine blk_drew ?_ | refine blk_alloc ?_ _)); refine blk_far ?_ NB154_166.out _; (with_reducible repeat (first | refine blk_drewN ?_ _ | refine blk_drew ?_ | refine blk_alloc ?_ _)); refine blk_far ?_ NB154_166.out _; (with_reducible repeat (first | refine blk_drewN ?_ _ | refine blk_drew ?_ | refine blk_alloc ?_ _)); exact BK154.out⟩
  have n3_ : Aside0 (((w29.setCell ⟨gb166, 0, none⟩ (.int .i64 t164)).setCell ⟨gb166, 1, none⟩ (.int .i64 t165)).heap[gb155]? = some (.cells #[.int .i64 a3_0, .int .i64 a3_1] 23 (0, 0))) := ⟨by (with_reducible repeat (first | refine blk_drewN ?_ _ | refine blk_drew ?_ | refine blk_alloc ?_ _)); refine blk_far ?_ NB155_166.out _; (with_reducible repeat (first | refine blk_drewN ?_ _ | refine blk_drew ?_ | refine blk_alloc ?_ _)); refine blk_far ?_ NB155_166.out _; (with_reducible repeat (first | refine blk_drewN ?_ _ | refine blk_drew ?_ | refine blk_alloc ?_ _)); exact BK155.out⟩
  have n4_ : Aside0 (((w29.setCell ⟨gb166, 0, none⟩ (.int .i64 t164)).setCell ⟨gb166, 1, none⟩ (.int .i64 t165)).heap[gb166]? = some (.cells #[.int .i64 t164, .int .i64 t165] 24 (0, 0))) := ⟨by (with_reducible repeat (first | refine blk_drewN ?_ _ | refine blk_drew ?_ | refine blk_alloc ?_ _)); refine blk_put (cs := #[.int .i64 t164, .int .i64 0]) ?_ 1 _ rfl; (with_reducible repeat (first | refine blk_drewN ?_ _ | refine blk_drew ?_ | refine blk_alloc ?_ _)); refine blk_put (cs := #[.int .i64 0, .int .i64 0]) ?_ 0 _ rfl; (with_reducible repeat (first | refine blk_drewN ?_ _ | refine blk_drew ?_ | refine blk_alloc ?_ _)); exact BK166.out⟩
  have n5_ : Aside0 (Below w.heap.size w ((w29.setCell ⟨gb166, 0, none⟩ (.int .i64 t164)).setCell ⟨gb166, 1, none⟩ (.int .i64 t165))) := ⟨by repeat (first | (with_reducible first | exact HB.out | apply below_alloc | apply pw_below_drewN | apply below_drew1 | refine below_set ?_ GE152.out | refine below_set ?_ GE153.out | refine below_set ?_ GE154.out | refine below_set ?_ GE155.out | refine below_set ?_ GE166.out) | exact HB.out)⟩
  (try clear BK152)
  (try clear BK153)
  (try clear BK154)
  (try clear BK155)
  (try clear BK166)
  (try clear HB)
  generalize ((w29.setCell ⟨gb166, 0, none⟩ (.int .i64 t164)).setCell ⟨gb166, 1, none⟩ (.int .i64 t165)) = w32 at n0_ n1_ n2_ n3_ n4_ n5_ ⊢
  have BK152 := n0_
  have BK153 := n1_
  have BK154 := n2_
  have BK155 := n3_
  have BK166 := n4_
  have HB := n5_
  clear n0_ n1_ n2_ n3_ n4_ n5_
  have n0_ := Aside0.mk (blk_drew BK152.out)
  have n1_ := Aside0.mk (blk_drew BK153.out)
  have n2_ := Aside0.mk (blk_drew BK154.out)
  have n3_ := Aside0.mk (blk_drew BK155.out)
  have n4_ := Aside0.mk (blk_drew BK166.out)
  have n5_ := Aside0.mk (below_drew1 HB.out)
  clear BK152
  clear BK153
  clear BK154
  clear BK155
  clear BK166
  clear HB
  have BK152 := n0_
  have BK153 := n1_
  have BK154 := n2_
  have BK155 := n3_
  have BK166 := n4_
  have HB := n5_
  clear n0_ n1_ n2_ n3_ n4_ n5_
  refine start_ (n := 12) (S := fun w' => w'.cell? ⟨gb152, 0, none⟩ = some (.int .i64 a0_0) ∧ w'.cell? ⟨gb152, 1, none⟩ = some (.int .i64 a0_1) ∧ w'.cell? ⟨gb153, 0, none⟩ = some (.int .i64 a1_0) ∧ w'.cell? ⟨gb153, 1, none⟩ = some (.int .i64 a1_1) ∧ w'.cell? ⟨gb154, 0, none⟩ = some (.int .i64 a2_0) ∧ w'.cell? ⟨gb154, 1, none⟩ = some (.int .i64 a2_1) ∧ w'.cell? ⟨gb155, 0, none⟩ = some (.int .i64 a3_0) ∧ w'.cell? ⟨gb155, 1, none⟩ = some (.int .i64 a3_1)) (ds := []) #[false, false, false, false, false, false, false, false, false, false, false, false] (by kernel_rfl) rfl rfl ⟨(blk_cell BK152.out 0).trans rfl, (blk_cell BK152.out 1).trans rfl, (blk_cell BK153.out 0).trans rfl, (blk_cell BK153.out 1).trans rfl, (blk_cell BK154.out 0).trans rfl, (blk_cell BK154.out 1).trans rfl, (blk_cell BK155.out 0).trans rfl, (blk_cell BK155.out 1).trans rfl⟩ (fun hHeld => ?_); refine with_tabW laws_FnExactCubicAt.tab2 laws_FnExactCubicAt.bits2 (fun HT_ HW_ => ?_)
  generalize w32.drew = w33 at BK152 BK153 BK154 BK155 BK166 HB hHeld ⊢
  refine pure_ (i := 8) (N := some 31) (v := ?_) (a' := ?_) #[false, false, false, false, false, false, false, false, true, false, false, false] rfl rfl (any_of HT_.out (by kernel_rfl)) (fun _ _ _ h => h) (Or.inl ⟨by rfl, ?_⟩) ?_ ?_
  rotate_left
  ·intro w'
   go_simp
   with_reducible rfl
  rotate_left
  ·simp only [Act.put, List.setIfInBounds_toArray, List.set_cons_zero, List.set_cons_succ, i64_w, i32_w]
   rfl
  refine take_ (i := 0) (N := some 23) (v := ?_) (a' := ?_) #[true, false, false, false, false, false, false, false, true, false, false, false] rfl rfl (take_ofW HT_.out HW_.out (by kernel_rfl)) (fun _ _ _ h => h) (Or.inl ⟨by rfl, ?_⟩) hHeld ?_ ?_
  rotate_left
  ·rintro w' ⟨s0, s1, s2, s3, s4, s5, s6, s7⟩
   go_simp
   with_reducible rfl
  rotate_left
  ·simp only [Act.put, List.setIfInBounds_toArray, List.set_cons_zero, List.set_cons_succ, i64_w, i32_w]
   rfl
  refine take_ (i := 2) (N := some 25) (v := ?_) (a' := ?_) #[true, false, true, false, false, false, false, false, true, false, false, false] rfl rfl (take_ofW HT_.out HW_.out (by kernel_rfl)) (fun _ _ _ h => h) (Or.inl ⟨by rfl, ?_⟩) hHeld ?_ ?_
  rotate_left
  ·rintro w' ⟨s0, s1, s2, s3, s4, s5, s6, s7⟩
   go_simp
   with_reducible rfl
  rotate_left
  ·simp only [Act.put, List.setIfInBounds_toArray, List.set_cons_zero, List.set_cons_succ, i64_w, i32_w]
   rfl
  refine take_ (i := 4) (N := some 27) (v := ?_) (a' := ?_) #[true, false, true, false, true, false, false, false, true, false, false, false] rfl rfl (take_ofW HT_.out HW_.out (by kernel_rfl)) (fun _ _ _ h => h) (Or.inl ⟨by rfl, ?_⟩) hHeld ?_ ?_
  rotate_left
  ·rintro w' ⟨s0, s1, s2, s3, s4, s5, s6, s7⟩
   go_simp
   with_reducible rfl
  rotate_left
  ·simp only [Act.put, List.setIfInBounds_toArray, List.set_cons_zero, List.set_cons_succ, i64_w, i32_w]
   rfl
  refine take_ (i := 6) (N := some 29) (v := ?_) (a' := ?_) #[true, false, true, false, true, false, true, false, true, false, false, false] rfl rfl (take_ofW HT_.out HW_.out (by kernel_rfl)) (fun _ _ _ h => h) (Or.inl ⟨by rfl, ?_⟩) hHeld ?_ ?_
  rotate_left
  ·rintro w' ⟨s0, s1, s2, s3, s4, s5, s6, s7⟩
   go_simp
   with_reducible rfl
  rotate_left
  ·simp only [Act.put, List.setIfInBounds_toArray, List.set_cons_zero, List.set_cons_succ, i64_w, i32_w]
   rfl
  refine join_ (σ := Nat) 1 #[true, true, true, true, true, true, true, true, true, true, true, false] (fun s_ => [(24, .agg #[.int .i64 t167, .int .i64 t168]), (26, .agg #[.int .i64 t169, .int .i64 t170]), (28, .agg #[.int .i64 t171, .int .i64 t172]), (30, .agg #[.int .i64 t173, .int .i64 t174]), (32, .agg #[.int .i64 t175, .int .i64 t176]), (12, .pointer (some ⟨s_, 0, none⟩))]) (fun s_ w' => (w'.cell? ⟨gb152, 0, none⟩ = some (.int .i64 a0_0) ∧ w'.cell? ⟨gb152, 1, none⟩ = some (.int .i64 a0_1) ∧ w'.cell? ⟨gb153, 0, none⟩ = some (.int .i64 a1_0) ∧ w'.cell? ⟨gb153, 1, none⟩ = some (.int .i64 a1_1) ∧ w'.cell? ⟨gb154, 0, none⟩ = some (.int .i64 a2_0) ∧ w'.cell? ⟨gb154, 1, none⟩ = some (.int .i64 a2_1) ∧ w'.cell? ⟨gb155, 0, none⟩ = some (.int .i64 a3_0) ∧ w'.cell? ⟨gb155, 1, none⟩ = some (.int .i64 a3_1)) ∧ (w'.heap[gb152]? = some (.cells #[.int .i64 a0_0, .int .i64 a0_1] 23 (0, 0))) ∧ (w'.heap[gb153]? = some (.cells #[.int .i64 a1_0, .int .i64 a1_1] 23 (0, 0))) ∧ (w'.heap[gb154]? = some (.cells #[.int .i64 a2_0, .int .i64 a2_1] 23 (0, 0))) ∧ (w'.heap[gb155]? = some (.cells #[.int .i64 a3_0, .int .i64 a3_1] 23 (0, 0))) ∧ (w'.heap[gb166]? = some (.cells #[.int .i64 t164, .int .i64 t165] 24 (0, 0))) ∧ (w'.heap[s_]? = some (.cells #[.int .i64 0, .int .i64 0] 24 (0, 0))) ∧ (w.heap.size ≤ s_) ∧ (w.heap.size ≤ s_) ∧ (gb152 ≠ s_) ∧ (s_ ≠ gb152) ∧ (gb153 ≠ s_) ∧ (s_ ≠ gb153) ∧ (gb154 ≠ s_) ∧ (s_ ≠ gb154) ∧ (gb155 ≠ s_) ∧ (s_ ≠ gb155) ∧ (gb166 ≠ s_) ∧ (s_ ≠ gb166) ∧ (Below w.heap.size w w')) ?_ ?_
  rotate_left
  ·intro hJ1_3_5_7_9_10
   refine join_ (σ := Unit) 2 #[true, true, true, true, true, true, true, true, true, true, false, false] (fun s_ => [(24, .agg #[.int .i64 t167, .int .i64 t168]), (26, .agg #[.int .i64 t169, .int .i64 t170]), (28, .agg #[.int .i64 t171, .int .i64 t172]), (30, .agg #[.int .i64 t173, .int .i64 t174]), (32, .agg #[.int .i64 t175, .int .i64 t176])]) (fun s_ w' => (w'.cell? ⟨gb152, 0, none⟩ = some (.int .i64 a0_0) ∧ w'.cell? ⟨gb152, 1, none⟩ = some (.int .i64 a0_1) ∧ w'.cell? ⟨gb153, 0, none⟩ = some (.int .i64 a1_0) ∧ w'.cell? ⟨gb153, 1, none⟩ = some (.int .i64 a1_1) ∧ w'.cell? ⟨gb154, 0, none⟩ = some (.int .i64 a2_0) ∧ w'.cell? ⟨gb154, 1, none⟩ = some (.int .i64 a2_1) ∧ w'.cell? ⟨gb155, 0, none⟩ = some (.int .i64 a3_0) ∧ w'.cell? ⟨gb155, 1, none⟩ = some (.int .i64 a3_1)) ∧ (w'.heap[gb152]? = some (.cells #[.int .i64 a0_0, .int .i64 a0_1] 23 (0, 0))) ∧ (w'.heap[gb153]? = some (.cells #[.int .i64 a1_0, .int .i64 a1_1] 23 (0, 0))) ∧ (w'.heap[gb154]? = some (.cells #[.int .i64 a2_0, .int .i64 a2_1] 23 (0, 0))) ∧ (w'.heap[gb155]? = some (.cells #[.int .i64 a3_0, .int .i64 a3_1] 23 (0, 0))) ∧ (w'.heap[gb166]? = some (.cells #[.int .i64 t164, .int .i64 t165] 24 (0, 0))) ∧ (Below w.heap.size w w')) ?_ ?_
   rotate_left
   ·intro hJ1_3_5_7_9
    refine join_ (σ := Nat) 2 #[true, true, true, true, true, true, true, true, true, false, true, false] (fun s_ => [(24, .agg #[.int .i64 t167, .int .i64 t168]), (26, .agg #[.int .i64 t169, .int .i64 t170]), (28, .agg #[.int .i64 t171, .int .i64 t172]), (30, .agg #[.int .i64 t173, .int .i64 t174]), (12, .pointer (some ⟨s_, 0, none⟩))]) (fun s_ w' => (w'.cell? ⟨gb152, 0, none⟩ = some (.int .i64 a0_0) ∧ w'.cell? ⟨gb152, 1, none⟩ = some (.int .i64 a0_1) ∧ w'.cell? ⟨gb153, 0, none⟩ = some (.int .i64 a1_0) ∧ w'.cell? ⟨gb153, 1, none⟩ = some (.int .i64 a1_1) ∧ w'.cell? ⟨gb154, 0, none⟩ = some (.int .i64 a2_0) ∧ w'.cell? ⟨gb154, 1, none⟩ = some (.int .i64 a2_1) ∧ w'.cell? ⟨gb155, 0, none⟩ = some (.int .i64 a3_0) ∧ w'.cell? ⟨gb155, 1, none⟩ = some (.int .i64 a3_1)) ∧ (w'.heap[gb152]? = some (.cells #[.int .i64 a0_0, .int .i64 a0_1] 23 (0, 0))) ∧ (w'.heap[gb153]? = some (.cells #[.int .i64 a1_0, .int .i64 a1_1] 23 (0, 0))) ∧ (w'.heap[gb154]? = some (.cells #[.int .i64 a2_0, .int .i64 a2_1] 23 (0, 0))) ∧ (w'.heap[gb155]? = some (.cells #[.int .i64 a3_0, .int .i64 a3_1] 23 (0, 0))) ∧ (w'.heap[gb166]? = some (.cells #[.int .i64 t164, .int .i64 t165] 24 (0, 0))) ∧ (w'.heap[s_]? = some (.cells #[.int .i64 0, .int .i64 0] 24 (0, 0))) ∧ (w.heap.size ≤ s_) ∧ (w.heap.size ≤ s_) ∧ (gb152 ≠ s_) ∧ (s_ ≠ gb152) ∧ (gb153 ≠ s_) ∧ (s_ ≠ gb153) ∧ (gb154 ≠ s_) ∧ (s_ ≠ gb154) ∧ (gb155 ≠ s_) ∧ (s_ ≠ gb155) ∧ (gb166 ≠ s_) ∧ (s_ ≠ gb166) ∧ (Below w.heap.size w w')) ?_ ?_
    rotate_left
    ·intro hJ1_3_5_7_10
     refine join_ (σ := Unit) 3 #[true, true, true, true, true, true, true, true, true, false, false, false] (fun s_ => [(24, .agg #[.int .i64 t167, .int .i64 t168]), (26, .agg #[.int .i64 t169, .int .i64 t170]), (28, .agg #[.int .i64 t171, .int .i64 t172]), (30, .agg #[.int .i64 t173, .int .i64 t174])]) (fun s_ w' => (w'.cell? ⟨gb152, 0, none⟩ = some (.int .i64 a0_0) ∧ w'.cell? ⟨gb152, 1, none⟩ = some (.int .i64 a0_1) ∧ w'.cell? ⟨gb153, 0, none⟩ = some (.int .i64 a1_0) ∧ w'.cell? ⟨gb153, 1, none⟩ = some (.int .i64 a1_1) ∧ w'.cell? ⟨gb154, 0, none⟩ = some (.int .i64 a2_0) ∧ w'.cell? ⟨gb154, 1, none⟩ = some (.int .i64 a2_1) ∧ w'.cell? ⟨gb155, 0, none⟩ = some (.int .i64 a3_0) ∧ w'.cell? ⟨gb155, 1, none⟩ = some (.int .i64 a3_1)) ∧ (w'.heap[gb152]? = some (.cells #[.int .i64 a0_0, .int .i64 a0_1] 23 (0, 0))) ∧ (w'.heap[gb153]? = some (.cells #[.int .i64 a1_0, .int .i64 a1_1] 23 (0, 0))) ∧ (w'.heap[gb154]? = some (.cells #[.int .i64 a2_0, .int .i64 a2_1] 23 (0, 0))) ∧ (w'.heap[gb155]? = some (.cells #[.int .i64 a3_0, .int .i64 a3_1] 23 (0, 0))) ∧ (w'.heap[gb166]? = some (.cells #[.int .i64 t164, .int .i64 t165] 24 (0, 0))) ∧ (Below w.heap.size w w')) ?_ ?_
     rotate_left
     ·intro hJ1_3_5_7
      refine join_ (σ := Nat) 3 #[true, true, true, true, true, true, true, false, true, false, true, false] (fun s_ => [(24, .agg #[.int .i64 t167, .int .i64 t168]), (26, .agg #[.int .i64 t169, .int .i64 t170]), (28, .agg #[.int .i64 t171, .int .i64 t172]), (12, .pointer (some ⟨s_, 0, none⟩))]) (fun s_ w' => (w'.cell? ⟨gb152, 0, none⟩ = some (.int .i64 a0_0) ∧ w'.cell? ⟨gb152, 1, none⟩ = some (.int .i64 a0_1) ∧ w'.cell? ⟨gb153, 0, none⟩ = some (.int .i64 a1_0) ∧ w'.cell? ⟨gb153, 1, none⟩ = some (.int .i64 a1_1) ∧ w'.cell? ⟨gb154, 0, none⟩ = some (.int .i64 a2_0) ∧ w'.cell? ⟨gb154, 1, none⟩ = some (.int .i64 a2_1) ∧ w'.cell? ⟨gb155, 0, none⟩ = some (.int .i64 a3_0) ∧ w'.cell? ⟨gb155, 1, none⟩ = some (.int .i64 a3_1)) ∧ (w'.heap[gb152]? = some (.cells #[.int .i64 a0_0, .int .i64 a0_1] 23 (0, 0))) ∧ (w'.heap[gb153]? = some (.cells #[.int .i64 a1_0, .int .i64 a1_1] 23 (0, 0))) ∧ (w'.heap[gb154]? = some (.cells #[.int .i64 a2_0, .int .i64 a2_1] 23 (0, 0))) ∧ (w'.heap[gb155]? = some (.cells #[.int .i64 a3_0, .int .i64 a3_1] 23 (0, 0))) ∧ (w'.heap[gb166]? = some (.cells #[.int .i64 t164, .int .i64 t165] 24 (0, 0))) ∧ (w'.heap[s_]? = some (.cells #[.int .i64 0, .int .i64 0] 24 (0, 0))) ∧ (w.heap.size ≤ s_) ∧ (w.heap.size ≤ s_) ∧ (gb152 ≠ s_) ∧ (s_ ≠ gb152) ∧ (gb153 ≠ s_) ∧ (s_ ≠ gb153) ∧ (gb154 ≠ s_) ∧ (s_ ≠ gb154) ∧ (gb155 ≠ s_) ∧ (s_ ≠ gb155) ∧ (gb166 ≠ s_) ∧ (s_ ≠ gb166) ∧ (Below w.heap.size w w')) ?_ ?_
      rotate_left
      ·intro hJ1_3_5_10
       refine join_ (σ := Unit) 4 #[true, true, true, true, true, true, true, false, true, false, false, false] (fun s_ => [(24, .agg #[.int .i64 t167, .int .i64 t168]), (26, .agg #[.int .i64 t169, .int .i64 t170]), (28, .agg #[.int .i64 t171, .int .i64 t172])]) (fun s_ w' => (w'.cell? ⟨gb152, 0, none⟩ = some (.int .i64 a0_0) ∧ w'.cell? ⟨gb152, 1, none⟩ = some (.int .i64 a0_1) ∧ w'.cell? ⟨gb153, 0, none⟩ = some (.int .i64 a1_0) ∧ w'.cell? ⟨gb153, 1, none⟩ = some (.int .i64 a1_1) ∧ w'.cell? ⟨gb154, 0, none⟩ = some (.int .i64 a2_0) ∧ w'.cell? ⟨gb154, 1, none⟩ = some (.int .i64 a2_1) ∧ w'.cell? ⟨gb155, 0, none⟩ = some (.int .i64 a3_0) ∧ w'.cell? ⟨gb155, 1, none⟩ = some (.int .i64 a3_1)) ∧ (w'.heap[gb152]? = some (.cells #[.int .i64 a0_0, .int .i64 a0_1] 23 (0, 0))) ∧ (w'.heap[gb153]? = some (.cells #[.int .i64 a1_0, .int .i64 a1_1] 23 (0, 0))) ∧ (w'.heap[gb154]? = some (.cells #[.int .i64 a2_0, .int .i64 a2_1] 23 (0, 0))) ∧ (w'.heap[gb155]? = some (.cells #[.int .i64 a3_0, .int .i64 a3_1] 23 (0, 0))) ∧ (w'.heap[gb166]? = some (.cells #[.int .i64 t164, .int .i64 t165] 24 (0, 0))) ∧ (Below w.heap.size w w')) ?_ ?_
       rotate_left
       ·intro hJ1_3_5
        refine join_ (σ := Nat) 4 #[true, true, true, true, true, false, true, false, true, false, true, false] (fun s_ => [(24, .agg #[.int .i64 t167, .int .i64 t168]), (26, .agg #[.int .i64 t169, .int .i64 t170]), (12, .pointer (some ⟨s_, 0, none⟩))]) (fun s_ w' => (w'.cell? ⟨gb152, 0, none⟩ = some (.int .i64 a0_0) ∧ w'.cell? ⟨gb152, 1, none⟩ = some (.int .i64 a0_1) ∧ w'.cell? ⟨gb153, 0, none⟩ = some (.int .i64 a1_0) ∧ w'.cell? ⟨gb153, 1, none⟩ = some (.int .i64 a1_1) ∧ w'.cell? ⟨gb154, 0, none⟩ = some (.int .i64 a2_0) ∧ w'.cell? ⟨gb154, 1, none⟩ = some (.int .i64 a2_1) ∧ w'.cell? ⟨gb155, 0, none⟩ = some (.int .i64 a3_0) ∧ w'.cell? ⟨gb155, 1, none⟩ = some (.int .i64 a3_1)) ∧ (w'.heap[gb152]? = some (.cells #[.int .i64 a0_0, .int .i64 a0_1] 23 (0, 0))) ∧ (w'.heap[gb153]? = some (.cells #[.int .i64 a1_0, .int .i64 a1_1] 23 (0, 0))) ∧ (w'.heap[gb154]? = some (.cells #[.int .i64 a2_0, .int .i64 a2_1] 23 (0, 0))) ∧ (w'.heap[gb155]? = some (.cells #[.int .i64 a3_0, .int .i64 a3_1] 23 (0, 0))) ∧ (w'.heap[gb166]? = some (.cells #[.int .i64 t164, .int .i64 t165] 24 (0, 0))) ∧ (w'.heap[s_]? = some (.cells #[.int .i64 0, .int .i64 0] 24 (0, 0))) ∧ (w.heap.size ≤ s_) ∧ (w.heap.size ≤ s_) ∧ (gb152 ≠ s_) ∧ (s_ ≠ gb152) ∧ (gb153 ≠ s_) ∧ (s_ ≠ gb153) ∧ (gb154 ≠ s_) ∧ (s_ ≠ gb154) ∧ (gb155 ≠ s_) ∧ (s_ ≠ gb155) ∧ (gb166 ≠ s_) ∧ (s_ ≠ gb166) ∧ (Below w.heap.size w w')) ?_ ?_
        rotate_left
        ·intro hJ1_3_10
         refine join_ (σ := Unit) 5 #[true, true, true, true, true, false, true, false, true, false, false, false] (fun s_ => [(24, .agg #[.int .i64 t167, .int .i64 t168]), (26, .agg #[.int .i64 t169, .int .i64 t170])]) (fun s_ w' => (w'.cell? ⟨gb152, 0, none⟩ = some (.int .i64 a0_0) ∧ w'.cell? ⟨gb152, 1, none⟩ = some (.int .i64 a0_1) ∧ w'.cell? ⟨gb153, 0, none⟩ = some (.int .i64 a1_0) ∧ w'.cell? ⟨gb153, 1, none⟩ = some (.int .i64 a1_1) ∧ w'.cell? ⟨gb154, 0, none⟩ = some (.int .i64 a2_0) ∧ w'.cell? ⟨gb154, 1, none⟩ = some (.int .i64 a2_1) ∧ w'.cell? ⟨gb155, 0, none⟩ = some (.int .i64 a3_0) ∧ w'.cell? ⟨gb155, 1, none⟩ = some (.int .i64 a3_1)) ∧ (w'.heap[gb152]? = some (.cells #[.int .i64 a0_0, .int .i64 a0_1] 23 (0, 0))) ∧ (w'.heap[gb153]? = some (.cells #[.int .i64 a1_0, .int .i64 a1_1] 23 (0, 0))) ∧ (w'.heap[gb154]? = some (.cells #[.int .i64 a2_0, .int .i64 a2_1] 23 (0, 0))) ∧ (w'.heap[gb155]? = some (.cells #[.int .i64 a3_0, .int .i64 a3_1] 23 (0, 0))) ∧ (w'.heap[gb166]? = some (.cells #[.int .i64 t164, .int .i64 t165] 24 (0, 0))) ∧ (Below w.heap.size w w')) ?_ ?_
         rotate_left
         ·intro hJ1_3
          refine join_ (σ := Nat) 5 #[true, true, true, false, true, false, true, false, true, false, true, false] (fun s_ => [(24, .agg #[.int .i64 t167, .int .i64 t168]), (12, .pointer (some ⟨s_, 0, none⟩))]) (fun s_ w' => (w'.cell? ⟨gb152, 0, none⟩ = some (.int .i64 a0_0) ∧ w'.cell? ⟨gb152, 1, none⟩ = some (.int .i64 a0_1) ∧ w'.cell? ⟨gb153, 0, none⟩ = some (.int .i64 a1_0) ∧ w'.cell? ⟨gb153, 1, none⟩ = some (.int .i64 a1_1) ∧ w'.cell? ⟨gb154, 0, none⟩ = some (.int .i64 a2_0) ∧ w'.cell? ⟨gb154, 1, none⟩ = some (.int .i64 a2_1) ∧ w'.cell? ⟨gb155, 0, none⟩ = some (.int .i64 a3_0) ∧ w'.cell? ⟨gb155, 1, none⟩ = some (.int .i64 a3_1)) ∧ (w'.heap[gb152]? = some (.cells #[.int .i64 a0_0, .int .i64 a0_1] 23 (0, 0))) ∧ (w'.heap[gb153]? = some (.cells #[.int .i64 a1_0, .int .i64 a1_1] 23 (0, 0))) ∧ (w'.heap[gb154]? = some (.cells #[.int .i64 a2_0, .int .i64 a2_1] 23 (0, 0))) ∧ (w'.heap[gb155]? = some (.cells #[.int .i64 a3_0, .int .i64 a3_1] 23 (0, 0))) ∧ (w'.heap[gb166]? = some (.cells #[.int .i64 t164, .int .i64 t165] 24 (0, 0))) ∧ (w'.heap[s_]? = some (.cells #[.int .i64 0, .int .i64 0] 24 (0, 0))) ∧ (w.heap.size ≤ s_) ∧ (w.heap.size ≤ s_) ∧ (gb152 ≠ s_) ∧ (s_ ≠ gb152) ∧ (gb153 ≠ s_) ∧ (s_ ≠ gb153) ∧ (gb154 ≠ s_) ∧ (s_ ≠ gb154) ∧ (gb155 ≠ s_) ∧ (s_ ≠ gb155) ∧ (gb166 ≠ s_) ∧ (s_ ≠ gb166) ∧ (Below w.heap.size w w')) ?_ ?_
          rotate_left
          ·intro hJ1_10
           refine join_ (σ := Unit) 6 #[true, true, true, false, true, false, true, false, true, false, false, false] (fun s_ => [(24, .agg #[.int .i64 t167, .int .i64 t168])]) (fun s_ w' => (w'.cell? ⟨gb152, 0, none⟩ = some (.int .i64 a0_0) ∧ w'.cell? ⟨gb152, 1, none⟩ = some (.int .i64 a0_1) ∧ w'.cell? ⟨gb153, 0, none⟩ = some (.int .i64 a1_0) ∧ w'.cell? ⟨gb153, 1, none⟩ = some (.int .i64 a1_1) ∧ w'.cell? ⟨gb154, 0, none⟩ = some (.int .i64 a2_0) ∧ w'.cell? ⟨gb154, 1, none⟩ = some (.int .i64 a2_1) ∧ w'.cell? ⟨gb155, 0, none⟩ = some (.int .i64 a3_0) ∧ w'.cell? ⟨gb155, 1, none⟩ = some (.int .i64 a3_1)) ∧ (w'.heap[gb152]? = some (.cells #[.int .i64 a0_0, .int .i64 a0_1] 23 (0, 0))) ∧ (w'.heap[gb153]? = some (.cells #[.int .i64 a1_0, .int .i64 a1_1] 23 (0, 0))) ∧ (w'.heap[gb154]? = some (.cells #[.int .i64 a2_0, .int .i64 a2_1] 23 (0, 0))) ∧ (w'.heap[gb155]? = some (.cells #[.int .i64 a3_0, .int .i64 a3_1] 23 (0, 0))) ∧ (w'.heap[gb166]? = some (.cells #[.int .i64 t164, .int .i64 t165] 24 (0, 0))) ∧ (Below w.heap.size w w')) ?_ ?_
           rotate_left
           ·intro hJ1
            refine join_ (σ := Nat) 6 #[true, false, true, false, true, false, true, false, true, false, true, false] (fun s_ => [(12, .pointer (some ⟨s_, 0, none⟩))]) (fun s_ w' => (w'.cell? ⟨gb152, 0, none⟩ = some (.int .i64 a0_0) ∧ w'.cell? ⟨gb152, 1, none⟩ = some (.int .i64 a0_1) ∧ w'.cell? ⟨gb153, 0, none⟩ = some (.int .i64 a1_0) ∧ w'.cell? ⟨gb153, 1, none⟩ = some (.int .i64 a1_1) ∧ w'.cell? ⟨gb154, 0, none⟩ = some (.int .i64 a2_0) ∧ w'.cell? ⟨gb154, 1, none⟩ = some (.int .i64 a2_1) ∧ w'.cell? ⟨gb155, 0, none⟩ = some (.int .i64 a3_0) ∧ w'.cell? ⟨gb155, 1, none⟩ = some (.int .i64 a3_1)) ∧ (w'.heap[gb152]? = some (.cells #[.int .i64 a0_0, .int .i64 a0_1] 23 (0, 0))) ∧ (w'.heap[gb153]? = some (.cells #[.int .i64 a1_0, .int .i64 a1_1] 23 (0, 0))) ∧ (w'.heap[gb154]? = some (.cells #[.int .i64 a2_0, .int .i64 a2_1] 23 (0, 0))) ∧ (w'.heap[gb155]? = some (.cells #[.int .i64 a3_0, .int .i64 a3_1] 23 (0, 0))) ∧ (w'.heap[gb166]? = some (.cells #[.int .i64 t164, .int .i64 t165] 24 (0, 0))) ∧ (w'.heap[s_]? = some (.cells #[.int .i64 0, .int .i64 0] 24 (0, 0))) ∧ (w.heap.size ≤ s_) ∧ (w.heap.size ≤ s_) ∧ (gb152 ≠ s_) ∧ (s_ ≠ gb152) ∧ (gb153 ≠ s_) ∧ (s_ ≠ gb153) ∧ (gb154 ≠ s_) ∧ (s_ ≠ gb154) ∧ (gb155 ≠ s_) ∧ (s_ ≠ gb155) ∧ (gb166 ≠ s_) ∧ (s_ ≠ gb166) ∧ (Below w.heap.size w w')) ?_ ?_
            rotate_left
            ·intro hJ10
             refine two_ (i := 1) (j := 10) (Ni := some 24) (Nj := some 12) #[true, true, true, false, true, false, true, false, true, false, false, false] #[true, false, true, false, true, false, true, false, true, false, true, false] rfl rfl rfl rfl (two_of HT_.out (by kernel_rfl)) (by decide) (by decide) (fun K hK => ?_) (fun K hK => ?_)
             ·skip
              refine goes_ Try.func15 (by kernel_rfl) rfl #[.agg #[.int .i64 a0_0, .int .i64 a0_1]] (by rfl) rfl rfl (by (try simp only [List.map_toArray, List.map_cons, List.map_nil]); first | done | rfl | (simp only [List.length_drop, List.length_take]; rfl)) ?_
              with_reducible refine (laws_toPoint.calls a0_0 a0_1 t167 t168 _ A11.out).mono ?_
              rintro e w34 ⟨rfl, hb⟩
              refine ⟨_, rfl, ?_⟩
              have n0_ := Aside0.mk (blk_below (g := gb152) (o := .cells #[.int .i64 a0_0, .int .i64 a0_1] 23 (0, 0)) (by exact BK152.out) hb)
              have n1_ := Aside0.mk (blk_below (g := gb153) (o := .cells #[.int .i64 a1_0, .int .i64 a1_1] 23 (0, 0)) (by exact BK153.out) hb)
              have n2_ := Aside0.mk (blk_below (g := gb154) (o := .cells #[.int .i64 a2_0, .int .i64 a2_1] 23 (0, 0)) (by exact BK154.out) hb)
              have n3_ := Aside0.mk (blk_below (g := gb155) (o := .cells #[.int .i64 a3_0, .int .i64 a3_1] 23 (0, 0)) (by exact BK155.out) hb)
              have n4_ := Aside0.mk (blk_below (g := gb166) (o := .cells #[.int .i64 t164, .int .i64 t165] 24 (0, 0)) (by exact BK166.out) hb)
              have n5_ := Aside0.mk (below_step (by repeat (first | (with_reducible first | exact HB.out | apply below_alloc | apply pw_below_drewN | apply below_drew1 | refine below_set ?_ GE152.out | refine below_set ?_ GE153.out | refine below_set ?_ GE154.out | refine below_set ?_ GE155.out | refine below_set ?_ GE166.out) | exact HB.out)) hb)
              clear BK152
              clear BK153
              clear BK154
              clear BK155
              clear BK166
              clear HB
              have BK152 := n0_
              have BK153 := n1_
              have BK154 := n2_
              have BK155 := n3_
              have BK166 := n4_
              have HB := n5_
              clear n0_ n1_ n2_ n3_ n4_ n5_
              (try clear hb)
              (try clear hb2)
              (try clear hk)
              (try clear hi)
              refine hK.out _ _ ⟨(blk_cell BK152.out 0).trans rfl, (blk_cell BK152.out 1).trans rfl, (blk_cell BK153.out 0).trans rfl, (blk_cell BK153.out 1).trans rfl, (blk_cell BK154.out 0).trans rfl, (blk_cell BK154.out 1).trans rfl, (blk_cell BK155.out 0).trans rfl, (blk_cell BK155.out 1).trans rfl⟩ (fun hHeld => ?_)
              clear hK K
              refine norm_ (a' := ?_) ?_ ?_
              rotate_left
              ·show Act.put _ (some 24) _ = _
               simp only [Act.put, List.setIfInBounds_toArray, List.set_cons_zero, List.set_cons_succ, i64_w, i32_w]
               rfl
              exact norm_ (by first | (simp only [putAll, Act.put, List.setIfInBounds_toArray, List.set_cons_zero, List.set_cons_succ]; done) | (simp only [putAll, Act.put, List.setIfInBounds_toArray, List.set_cons_zero, List.set_cons_succ]; rfl)) (hJ1 () _ ⟨hHeld, (by exact BK152.out), (by exact BK153.out), (by exact BK154.out), (by exact BK155.out), (by exact BK166.out), (by repeat (first | (with_reducible first | exact HB.out | apply below_alloc | apply pw_below_drewN | apply below_drew1 | refine below_set ?_ GE152.out | refine below_set ?_ GE153.out | refine below_set ?_ GE154.out | refine below_set ?_ GE155.out | refine below_set ?_ GE166.out) | exact HB.out))⟩)
             ·skip
              refine box_step ?hg (N := 12) ?hd (cs := #[.int .i64 0, .int .i64 0]) (t := 24) ?hr ?_; (case hd => rfl); (case hg => rfl); (case hr => first | (go_simp; done) | (go_simp; rfl))
              intro gb177 hg w34 hbox hb
              have n0_ := Aside0.mk (blk_below (g := gb152) (o := .cells #[.int .i64 a0_0, .int .i64 a0_1] 23 (0, 0)) (by exact BK152.out) hb)
              have n1_ := Aside0.mk (blk_below (g := gb153) (o := .cells #[.int .i64 a1_0, .int .i64 a1_1] 23 (0, 0)) (by exact BK153.out) hb)
              have n2_ := Aside0.mk (blk_below (g := gb154) (o := .cells #[.int .i64 a2_0, .int .i64 a2_1] 23 (0, 0)) (by exact BK154.out) hb)
              have n3_ := Aside0.mk (blk_below (g := gb155) (o := .cells #[.int .i64 a3_0, .int .i64 a3_1] 23 (0, 0)) (by exact BK155.out) hb)
              have n4_ := Aside0.mk (blk_below (g := gb166) (o := .cells #[.int .i64 t164, .int .i64 t165] 24 (0, 0)) (by exact BK166.out) hb)
              have n5_ := Aside0.mk (below_step (by repeat (first | (with_reducible first | exact HB.out | apply below_alloc | apply pw_below_drewN | apply below_drew1 | refine below_set ?_ GE152.out | refine below_set ?_ GE153.out | refine below_set ?_ GE154.out | refine below_set ?_ GE155.out | refine below_set ?_ GE166.out) | exact HB.out)) hb)
              have n6_ := Aside0.mk (hbox)
              have n7_ := Aside0.mk ((by rw [hg]; exact (below_size (by repeat (first | (with_reducible first | exact HB.out | apply below_alloc | apply pw_below_drewN | apply below_drew1 | refine below_set ?_ GE152.out | refine below_set ?_ GE153.out | refine below_set ?_ GE154.out | refine below_set ?_ GE155.out | refine below_set ?_ GE166.out) | exact HB.out))) : w.heap.size ≤ gb177))
              have n8_ := Aside0.mk ((by rw [hg]; exact (below_size (by repeat (first | (with_reducible first | exact HB.out | apply below_alloc | apply pw_below_drewN | apply below_drew1 | refine below_set ?_ GE152.out | refine below_set ?_ GE153.out | refine below_set ?_ GE154.out | refine below_set ?_ GE155.out | refine below_set ?_ GE166.out) | exact HB.out))) : w.heap.size ≤ gb177))
              have n9_ := Aside0.mk ((by rw [hg]; exact Nat.ne_of_lt (blk_lt (g := gb152) (o := .cells #[.int .i64 a0_0, .int .i64 a0_1] 23 (0, 0)) (by exact BK152.out)) : gb152 ≠ gb177))
              have n10_ := Aside0.mk ((by rw [hg]; exact Nat.ne_of_gt (blk_lt (g := gb152) (o := .cells #[.int .i64 a0_0, .int .i64 a0_1] 23 (0, 0)) (by exact BK152.out)) : gb177 ≠ gb152))
              have n11_ := Aside0.mk ((by rw [hg]; exact Nat.ne_of_lt (blk_lt (g := gb153) (o := .cells #[.int .i64 a1_0, .int .i64 a1_1] 23 (0, 0)) (by exact BK153.out)) : gb153 ≠ gb177))
              have n12_ := Aside0.mk ((by rw [hg]; exact Nat.ne_of_gt (blk_lt (g := gb153) (o := .cells #[.int .i64 a1_0, .int .i64 a1_1] 23 (0, 0)) (by exact BK153.out)) : gb177 ≠ gb153))
              have n13_ := Aside0.mk ((by rw [hg]; exact Nat.ne_of_lt (blk_lt (g := gb154) (o := .cells #[.int .i64 a2_0, .int .i64 a2_1] 23 (0, 0)) (by exact BK154.out)) : gb154 ≠ gb177))
              have n14_ := Aside0.mk ((by rw [hg]; exact Nat.ne_of_gt (blk_lt (g := gb154) (o := .cells #[.int .i64 a2_0, .int .i64 a2_1] 23 (0, 0)) (by exact BK154.out)) : gb177 ≠ gb154))
              have n15_ := Aside0.mk ((by rw [hg]; exact Nat.ne_of_lt (blk_lt (g := gb155) (o := .cells #[.int .i64 a3_0, .int .i64 a3_1] 23 (0, 0)) (by exact BK155.out)) : gb155 ≠ gb177))
              have n16_ := Aside0.mk ((by rw [hg]; exact Nat.ne_of_gt (blk_lt (g := gb155) (o := .cells #[.int .i64 a3_0, .int .i64 a3_1] 23 (0, 0)) (by exact BK155.out)) : gb177 ≠ gb155))
              have n17_ := Aside0.mk ((by rw [hg]; exact Nat.ne_of_lt (blk_lt (g := gb166) (o := .cells #[.int .i64 t164, .int .i64 t165] 24 (0, 0)) (by exact BK166.out)) : gb166 ≠ gb177))
              have n18_ := Aside0.mk ((by rw [hg]; exact Nat.ne_of_gt (blk_lt (g := gb166) (o := .cells #[.int .i64 t164, .int .i64 t165] 24 (0, 0)) (by exact BK166.out)) : gb177 ≠ gb166))
              clear BK152
              clear BK153
              clear BK154
              clear BK155
              clear BK166
              clear HB
              have BK152 := n0_
              have BK153 := n1_
              have BK154 := n2_
              have BK155 := n3_
              have BK166 := n4_
              have HB := n5_
              have BK177 := n6_
              have GW177 := n7_
              have GE177 := n8_
              have NB152_177 := n9_
              have NB177_152 := n10_
              have NB153_177 := n11_
              have NB177_153 := n12_
              have NB154_177 := n13_
              have NB177_154 := n14_
              have NB155_177 := n15_
              have NB177_155 := n16_
              have NB166_177 := n17_
              have NB177_166 := n18_
              clear n0_ n1_ n2_ n3_ n4_ n5_ n6_ n7_ n8_ n9_ n10_ n11_ n12_ n13_ n14_ n15_ n16_ n17_ n18_
              clear hb hbox hg
              refine hK.out _ _ ⟨(blk_cell BK152.out 0).trans rfl, (blk_cell BK152.out 1).trans rfl, (blk_cell BK153.out 0).trans rfl, (blk_cell BK153.out 1).trans rfl, (blk_cell BK154.out 0).trans rfl, (blk_cell BK154.out 1).trans rfl, (blk_cell BK155.out 0).trans rfl, (blk_cell BK155.out 1).trans rfl⟩ (fun hHeld => ?_)
              clear hK K
              refine norm_ (a' := ?_) ?_ ?_
              rotate_left
              ·show Act.put _ (some 12) _ = _
               simp only [Act.put, List.setIfInBounds_toArray, List.set_cons_zero, List.set_cons_succ, i64_w, i32_w]
               rfl
              exact norm_ (by first | (simp only [putAll, Act.put, List.setIfInBounds_toArray, List.set_cons_zero, List.set_cons_succ]; done) | (simp only [putAll, Act.put, List.setIfInBounds_toArray, List.set_cons_zero, List.set_cons_succ]; rfl)) (hJ10 (gb177) _ ⟨hHeld, (by exact BK152.out), (by exact BK153.out), (by exact BK154.out), (by exact BK155.out), (by exact BK166.out), (by exact BK177.out), GW177.out, GE177.out, NB152_177.out, NB177_152.out, NB153_177.out, NB177_153.out, NB154_177.out, NB177_154.out, NB155_177.out, NB177_155.out, NB166_177.out, NB177_166.out, (by repeat (first | (with_reducible first | exact HB.out | apply below_alloc | apply pw_below_drewN | apply below_drew1 | refine below_set ?_ GE152.out | refine below_set ?_ GE153.out | refine below_set ?_ GE154.out | refine below_set ?_ GE155.out | refine below_set ?_ GE166.out | refine below_set ?_ GE177.out) | exact HB.out))⟩)
            ·skip
             rintro gb177 w35 ⟨hS_, h0_, h1_, h2_, h3_, h4_, h5_, h6_, h7_, h8_, h9_, h10_, h11_, h12_, h13_, h14_, h15_, h16_, h17_, h18_⟩
             have n0_ : Aside0 (w35.heap[gb152]? = some (.cells #[.int .i64 a0_0, .int .i64 a0_1] 23 (0, 0))) := ⟨h0_⟩
             have n1_ : Aside0 (w35.heap[gb153]? = some (.cells #[.int .i64 a1_0, .int .i64 a1_1] 23 (0, 0))) := ⟨h1_⟩
             have n2_ : Aside0 (w35.heap[gb154]? = some (.cells #[.int .i64 a2_0, .int .i64 a2_1] 23 (0, 0))) := ⟨h2_⟩
             have n3_ : Aside0 (w35.heap[gb155]? = some (.cells #[.int .i64 a3_0, .int .i64 a3_1] 23 (0, 0))) := ⟨h3_⟩
             have n4_ : Aside0 (w35.heap[gb166]? = some (.cells #[.int .i64 t164, .int .i64 t165] 24 (0, 0))) := ⟨h4_⟩
             have n5_ : Aside0 (w35.heap[gb177]? = some (.cells #[.int .i64 0, .int .i64 0] 24 (0, 0))) := ⟨h5_⟩
             have n6_ : Aside0 (w.heap.size ≤ gb177) := ⟨h6_⟩
             have n7_ : Aside0 (w.heap.size ≤ gb177) := ⟨h7_⟩
             have n8_ : Aside0 (gb152 ≠ gb177) := ⟨h8_⟩
             have n9_ : Aside0 (gb177 ≠ gb152) := ⟨h9_⟩
             have n10_ : Aside0 (gb153 ≠ gb177) := ⟨h10_⟩
             have n11_ : Aside0 (gb177 ≠ gb153) := ⟨h11_⟩
             have n12_ : Aside0 (gb154 ≠ gb177) := ⟨h12_⟩
             have n13_ : Aside0 (gb177 ≠ gb154) := ⟨h13_⟩
             have n14_ : Aside0 (gb155 ≠ gb177) := ⟨h14_⟩
             have n15_ : Aside0 (gb177 ≠ gb155) := ⟨h15_⟩
             have n16_ : Aside0 (gb166 ≠ gb177) := ⟨h16_⟩
             have n17_ : Aside0 (gb177 ≠ gb166) := ⟨h17_⟩
             have n18_ : Aside0 (Below w.heap.size w w35) := ⟨h18_⟩
             clear BK152
             clear BK153
             clear BK154
             clear BK155
             clear BK166
             clear HB
             clear h0_ h1_ h2_ h3_ h4_ h5_ h6_ h7_ h8_ h9_ h10_ h11_ h12_ h13_ h14_ h15_ h16_ h17_ h18_
             have BK152 := n0_
             have BK153 := n1_
             have BK154 := n2_
             have BK155 := n3_
             have BK166 := n4_
             have BK177 := n5_
             have GW177 := n6_
             have GE177 := n7_
             have NB152_177 := n8_
             have NB177_152 := n9_
             have NB153_177 := n10_
             have NB177_153 := n11_
             have NB154_177 := n12_
             have NB177_154 := n13_
             have NB155_177 := n14_
             have NB177_155 := n15_
             have NB166_177 := n16_
             have NB177_166 := n17_
             have HB := n18_
             clear n0_ n1_ n2_ n3_ n4_ n5_ n6_ n7_ n8_ n9_ n10_ n11_ n12_ n13_ n14_ n15_ n16_ n17_ n18_
             have hHeld : w35.cell? ⟨gb152, 0, none⟩ = some (.int .i64 a0_0) ∧ w35.cell? ⟨gb152, 1, none⟩ = some (.int .i64 a0_1) ∧ w35.cell? ⟨gb153, 0, none⟩ = some (.int .i64 a1_0) ∧ w35.cell? ⟨gb153, 1, none⟩ = some (.int .i64 a1_1) ∧ w35.cell? ⟨gb154, 0, none⟩ = some (.int .i64 a2_0) ∧ w35.cell? ⟨gb154, 1, none⟩ = some (.int .i64 a2_1) ∧ w35.cell? ⟨gb155, 0, none⟩ = some (.int .i64 a3_0) ∧ w35.cell? ⟨gb155, 1, none⟩ = some (.int .i64 a3_1) := hS_
             refine norm_ (a' := ?_) ?_ ?_
             rotate_left
             ·simp only [putAll, Act.put, List.setIfInBounds_toArray, List.set_cons_zero, List.set_cons_succ]
              rfl
             refine one_ (i := 1) (N := some 24) #[true, true, true, false, true, false, true, false, true, false, true, false] rfl rfl (one_of HT_.out (by kernel_rfl)) (by decide) (fun K hK => ?_)
             refine goes_ Try.func15 (by kernel_rfl) rfl #[.agg #[.int .i64 a0_0, .int .i64 a0_1]] (by rfl) rfl rfl (by (try simp only [List.map_toArray, List.map_cons, List.map_nil]); first | done | rfl | (simp only [List.length_drop, List.length_take]; rfl)) ?_
             with_reducible refine (laws_toPoint.calls a0_0 a0_1 t167 t168 _ A11.out).mono ?_
             rintro e w36 ⟨rfl, hb⟩
             refine ⟨_, rfl, ?_⟩
             have n0_ := Aside0.mk (blk_below (g := gb152) (o := .cells #[.int .i64 a0_0, .int .i64 a0_1] 23 (0, 0)) (by exact BK152.out) hb)
             have n1_ := Aside0.mk (blk_below (g := gb153) (o := .cells #[.int .i64 a1_0, .int .i64 a1_1] 23 (0, 0)) (by exact BK153.out) hb)
             have n2_ := Aside0.mk (blk_below (g := gb154) (o := .cells #[.int .i64 a2_0, .int .i64 a2_1] 23 (0, 0)) (by exact BK154.out) hb)
             have n3_ := Aside0.mk (blk_below (g := gb155) (o := .cells #[.int .i64 a3_0, .int .i64 a3_1] 23 (0, 0)) (by exact BK155.out) hb)
             have n4_ := Aside0.mk (blk_below (g := gb166) (o := .cells #[.int .i64 t164, .int .i64 t165] 24 (0, 0)) (by exact BK166.out) hb)
             have n5_ := Aside0.mk (blk_below (g := gb177) (o := .cells #[.int .i64 0, .int .i64 0] 24 (0, 0)) (by exact BK177.out) hb)
             have n6_ := Aside0.mk (below_step (by repeat (first | (with_reducible first | exact HB.out | apply below_alloc | apply pw_below_drewN | apply below_drew1 | refine below_set ?_ GE152.out | refine below_set ?_ GE153.out | refine below_set ?_ GE154.out | refine below_set ?_ GE155.out | refine below_set ?_ GE166.out | refine below_set ?_ GE177.out) | exact HB.out)) hb)
             clear BK152
             clear BK153
             clear BK154
             clear BK155
             clear BK166
             clear BK177
             clear HB
             have BK152 := n0_
             have BK153 := n1_
             have BK154 := n2_
             have BK155 := n3_
             have BK166 := n4_
             have BK177 := n5_
             have HB := n6_
             clear n0_ n1_ n2_ n3_ n4_ n5_ n6_
             (try clear hb)
             (try clear hb2)
             (try clear hk)
             (try clear hi)
             refine hK.out _ _ ⟨(blk_cell BK152.out 0).trans rfl, (blk_cell BK152.out 1).trans rfl, (blk_cell BK153.out 0).trans rfl, (blk_cell BK153.out 1).trans rfl, (blk_cell BK154.out 0).trans rfl, (blk_cell BK154.out 1).trans rfl, (blk_cell BK155.out 0).trans rfl, (blk_cell BK155.out 1).trans rfl⟩ (fun hHeld => ?_)
             clear hK K
             refine norm_ (a' := ?_) ?_ ?_
             rotate_left
             ·show Act.put _ (some 24) _ = _
              simp only [Act.put, List.setIfInBounds_toArray, List.set_cons_zero, List.set_cons_succ, i64_w, i32_w]
              rfl
             exact norm_ (by first | (simp only [putAll, Act.put, List.setIfInBounds_toArray, List.set_cons_zero, List.set_cons_succ]; done) | (simp only [putAll, Act.put, List.setIfInBounds_toArray, List.set_cons_zero, List.set_cons_succ]; rfl)) (hJ1_10 (gb177) _ ⟨hHeld, (by exact BK152.out), (by exact BK153.out), (by exact BK154.out), (by exact BK155.out), (by exact BK166.out), (by exact BK177.out), GW177.out, GE177.out, NB152_177.out, NB177_152.out, NB153_177.out, NB177_153.out, NB154_177.out, NB177_154.out, NB155_177.out, NB177_155.out, NB166_177.out, NB177_166.out, (by repeat (first | (with_reducible first | exact HB.out | apply below_alloc | apply pw_below_drewN | apply below_drew1 | refine below_set ?_ GE152.out | refine below_set ?_ GE153.out | refine below_set ?_ GE154.out | refine below_set ?_ GE155.out | refine below_set ?_ GE166.out | refine below_set ?_ GE177.out) | exact HB.out))⟩)
           ·skip
            rintro _ w35 ⟨hS_, h0_, h1_, h2_, h3_, h4_, h5_⟩
            have n0_ : Aside0 (w35.heap[gb152]? = some (.cells #[.int .i64 a0_0, .int .i64 a0_1] 23 (0, 0))) := ⟨h0_⟩
            have n1_ : Aside0 (w35.heap[gb153]? = some (.cells #[.int .i64 a1_0, .int .i64 a1_1] 23 (0, 0))) := ⟨h1_⟩
            have n2_ : Aside0 (w35.heap[gb154]? = some (.cells #[.int .i64 a2_0, .int .i64 a2_1] 23 (0, 0))) := ⟨h2_⟩
            have n3_ : Aside0 (w35.heap[gb155]? = some (.cells #[.int .i64 a3_0, .int .i64 a3_1] 23 (0, 0))) := ⟨h3_⟩
            have n4_ : Aside0 (w35.heap[gb166]? = some (.cells #[.int .i64 t164, .int .i64 t165] 24 (0, 0))) := ⟨h4_⟩
            have n5_ : Aside0 (Below w.heap.size w w35) := ⟨h5_⟩
            clear BK152
            clear BK153
            clear BK154
            clear BK155
            clear BK166
            clear HB
            clear h0_ h1_ h2_ h3_ h4_ h5_
            have BK152 := n0_
            have BK153 := n1_
            have BK154 := n2_
            have BK155 := n3_
            have BK166 := n4_
            have HB := n5_
            clear n0_ n1_ n2_ n3_ n4_ n5_
            have hHeld : w35.cell? ⟨gb152, 0, none⟩ = some (.int .i64 a0_0) ∧ w35.cell? ⟨gb152, 1, none⟩ = some (.int .i64 a0_1) ∧ w35.cell? ⟨gb153, 0, none⟩ = some (.int .i64 a1_0) ∧ w35.cell? ⟨gb153, 1, none⟩ = some (.int .i64 a1_1) ∧ w35.cell? ⟨gb154, 0, none⟩ = some (.int .i64 a2_0) ∧ w35.cell? ⟨gb154, 1, none⟩ = some (.int .i64 a2_1) ∧ w35.cell? ⟨gb155, 0, none⟩ = some (.int .i64 a3_0) ∧ w35.cell? ⟨gb155, 1, none⟩ = some (.int .i64 a3_1) := hS_
            refine norm_ (a' := ?_) ?_ ?_
            rotate_left
            ·simp only [putAll, Act.put, List.setIfInBounds_toArray, List.set_cons_zero, List.set_cons_succ]
             rfl
            refine two_ (i := 3) (j := 10) (Ni := some 26) (Nj := some 12) #[true, true, true, true, true, false, true, false, true, false, false, false] #[true, true, true, false, true, false, true, false, true, false, true, false] rfl rfl rfl rfl (two_of HT_.out (by kernel_rfl)) (by decide) (by decide) (fun K hK => ?_) (fun K hK => ?_)
            ·skip
             refine goes_ Try.func15 (by kernel_rfl) rfl #[.agg #[.int .i64 a1_0, .int .i64 a1_1]] (by rfl) rfl rfl (by (try simp only [List.map_toArray, List.map_cons, List.map_nil]); first | done | rfl | (simp only [List.length_drop, List.length_take]; rfl)) ?_
             with_reducible refine (laws_toPoint.calls a1_0 a1_1 t169 t170 _ A12.out).mono ?_
             rintro e w36 ⟨rfl, hb⟩
             refine ⟨_, rfl, ?_⟩
             have n0_ := Aside0.mk (blk_below (g := gb152) (o := .cells #[.int .i64 a0_0, .int .i64 a0_1] 23 (0, 0)) (by exact BK152.out) hb)
             have n1_ := Aside0.mk (blk_below (g := gb153) (o := .cells #[.int .i64 a1_0, .int .i64 a1_1] 23 (0, 0)) (by exact BK153.out) hb)
             have n2_ := Aside0.mk (blk_below (g := gb154) (o := .cells #[.int .i64 a2_0, .int .i64 a2_1] 23 (0, 0)) (by exact BK154.out) hb)
             have n3_ := Aside0.mk (blk_below (g := gb155) (o := .cells #[.int .i64 a3_0, .int .i64 a3_1] 23 (0, 0)) (by exact BK155.out) hb)
             have n4_ := Aside0.mk (blk_below (g := gb166) (o := .cells #[.int .i64 t164, .int .i64 t165] 24 (0, 0)) (by exact BK166.out) hb)
             have n5_ := Aside0.mk (below_step (by repeat (first | (with_reducible first | exact HB.out | apply below_alloc | apply pw_below_drewN | apply below_drew1 | refine below_set ?_ GE152.out | refine below_set ?_ GE153.out | refine below_set ?_ GE154.out | refine below_set ?_ GE155.out | refine below_set ?_ GE166.out) | exact HB.out)) hb)
             clear BK152
             clear BK153
             clear BK154
             clear BK155
             clear BK166
             clear HB
             have BK152 := n0_
             have BK153 := n1_
             have BK154 := n2_
             have BK155 := n3_
             have BK166 := n4_
             have HB := n5_
             clear n0_ n1_ n2_ n3_ n4_ n5_
             (try clear hb)
             (try clear hb2)
             (try clear hk)
             (try clear hi)
             refine hK.out _ _ ⟨(blk_cell BK152.out 0).trans rfl, (blk_cell BK152.out 1).trans rfl, (blk_cell BK153.out 0).trans rfl, (blk_cell BK153.out 1).trans rfl, (blk_cell BK154.out 0).trans rfl, (blk_cell BK154.out 1).trans rfl, (blk_cell BK155.out 0).trans rfl, (blk_cell BK155.out 1).trans rfl⟩ (fun hHeld => ?_)
             clear hK K
             refine norm_ (a' := ?_) ?_ ?_
             rotate_left
             ·show Act.put _ (some 26) _ = _
              simp only [Act.put, List.setIfInBounds_toArray, List.set_cons_zero, List.set_cons_succ, i64_w, i32_w]
              rfl
             exact norm_ (by first | (simp only [putAll, Act.put, List.setIfInBounds_toArray, List.set_cons_zero, List.set_cons_succ]; done) | (simp only [putAll, Act.put, List.setIfInBounds_toArray, List.set_cons_zero, List.set_cons_succ]; rfl)) (hJ1_3 () _ ⟨hHeld, (by exact BK152.out), (by exact BK153.out), (by exact BK154.out), (by exact BK155.out), (by exact BK166.out), (by repeat (first | (with_reducible first | exact HB.out | apply below_alloc | apply pw_below_drewN | apply below_drew1 | refine below_set ?_ GE152.out | refine below_set ?_ GE153.out | refine below_set ?_ GE154.out | refine below_set ?_ GE155.out | refine below_set ?_ GE166.out) | exact HB.out))⟩)
            ·skip
             refine box_step ?hg (N := 12) ?hd (cs := #[.int .i64 0, .int .i64 0]) (t := 24) ?hr ?_; (case hd => rfl); (case hg => rfl); (case hr => first | (go_simp; done) | (go_simp; rfl))
             intro gb177 hg w36 hbox hb
             have n0_ := Aside0.mk (blk_below (g := gb152) (o := .cells #[.int .i64 a0_0, .int .i64 a0_1] 23 (0, 0)) (by exact BK152.out) hb)
             have n1_ := Aside0.mk (blk_below (g := gb153) (o := .cells #[.int .i64 a1_0, .int .i64 a1_1] 23 (0, 0)) (by exact BK153.out) hb)
             have n2_ := Aside0.mk (blk_below (g := gb154) (o := .cells #[.int .i64 a2_0, .int .i64 a2_1] 23 (0, 0)) (by exact BK154.out) hb)
             have n3_ := Aside0.mk (blk_below (g := gb155) (o := .cells #[.int .i64 a3_0, .int .i64 a3_1] 23 (0, 0)) (by exact BK155.out) hb)
             have n4_ := Aside0.mk (blk_below (g := gb166) (o := .cells #[.int .i64 t164, .int .i64 t165] 24 (0, 0)) (by exact BK166.out) hb)
             have n5_ := Aside0.mk (below_step (by repeat (first | (with_reducible first | exact HB.out | apply below_alloc | apply pw_below_drewN | apply below_drew1 | refine below_set ?_ GE152.out | refine below_set ?_ GE153.out | refine below_set ?_ GE154.out | refine below_set ?_ GE155.out | refine below_set ?_ GE166.out) | exact HB.out)) hb)
             have n6_ := Aside0.mk (hbox)
             have n7_ := Aside0.mk ((by rw [hg]; exact (below_size (by repeat (first | (with_reducible first | exact HB.out | apply below_alloc | apply pw_below_drewN | apply below_drew1 | refine below_set ?_ GE152.out | refine below_set ?_ GE153.out | refine below_set ?_ GE154.out | refine below_set ?_ GE155.out | refine below_set ?_ GE166.out) | exact HB.out))) : w.heap.size ≤ gb177))
             have n8_ := Aside0.mk ((by rw [hg]; exact (below_size (by repeat (first | (with_reducible first | exact HB.out | apply below_alloc | apply pw_below_drewN | apply below_drew1 | refine below_set ?_ GE152.out | refine below_set ?_ GE153.out | refine below_set ?_ GE154.out | refine below_set ?_ GE155.out | refine below_set ?_ GE166.out) | exact HB.out))) : w.heap.size ≤ gb177))
             have n9_ := Aside0.mk ((by rw [hg]; exact Nat.ne_of_lt (blk_lt (g := gb152) (o := .cells #[.int .i64 a0_0, .int .i64 a0_1] 23 (0, 0)) (by exact BK152.out)) : gb152 ≠ gb177))
             have n10_ := Aside0.mk ((by rw [hg]; exact Nat.ne_of_gt (blk_lt (g := gb152) (o := .cells #[.int .i64 a0_0, .int .i64 a0_1] 23 (0, 0)) (by exact BK152.out)) : gb177 ≠ gb152))
             have n11_ := Aside0.mk ((by rw [hg]; exact Nat.ne_of_lt (blk_lt (g := gb153) (o := .cells #[.int .i64 a1_0, .int .i64 a1_1] 23 (0, 0)) (by exact BK153.out)) : gb153 ≠ gb177))
             have n12_ := Aside0.mk ((by rw [hg]; exact Nat.ne_of_gt (blk_lt (g := gb153) (o := .cells #[.int .i64 a1_0, .int .i64 a1_1] 23 (0, 0)) (by exact BK153.out)) : gb177 ≠ gb153))
             have n13_ := Aside0.mk ((by rw [hg]; exact Nat.ne_of_lt (blk_lt (g := gb154) (o := .cells #[.int .i64 a2_0, .int .i64 a2_1] 23 (0, 0)) (by exact BK154.out)) : gb154 ≠ gb177))
             have n14_ := Aside0.mk ((by rw [hg]; exact Nat.ne_of_gt (blk_lt (g := gb154) (o := .cells #[.int .i64 a2_0, .int .i64 a2_1] 23 (0, 0)) (by exact BK154.out)) : gb177 ≠ gb154))
             have n15_ := Aside0.mk ((by rw [hg]; exact Nat.ne_of_lt (blk_lt (g := gb155) (o := .cells #[.int .i64 a3_0, .int .i64 a3_1] 23 (0, 0)) (by exact BK155.out)) : gb155 ≠ gb177))
             have n16_ := Aside0.mk ((by rw [hg]; exact Nat.ne_of_gt (blk_lt (g := gb155) (o := .cells #[.int .i64 a3_0, .int .i64 a3_1] 23 (0, 0)) (by exact BK155.out)) : gb177 ≠ gb155))
             have n17_ := Aside0.mk ((by rw [hg]; exact Nat.ne_of_lt (blk_lt (g := gb166) (o := .cells #[.int .i64 t164, .int .i64 t165] 24 (0, 0)) (by exact BK166.out)) : gb166 ≠ gb177))
             have n18_ := Aside0.mk ((by rw [hg]; exact Nat.ne_of_gt (blk_lt (g := gb166) (o := .cells #[.int .i64 t164, .int .i64 t165] 24 (0, 0)) (by exact BK166.out)) : gb177 ≠ gb166))
             clear BK152
             clear BK153
             clear BK154
             clear BK155
             clear BK166
             clear HB
             have BK152 := n0_
             have BK153 := n1_
             have BK154 := n2_
             have BK155 := n3_
             have BK166 := n4_
             have HB := n5_
             have BK177 := n6_
             have GW177 := n7_
             have GE177 := n8_
             have NB152_177 := n9_
             have NB177_152 := n10_
             have NB153_177 := n11_
             have NB177_153 := n12_
             have NB154_177 := n13_
             have NB177_154 := n14_
             have NB155_177 := n15_
             have NB177_155 := n16_
             have NB166_177 := n17_
             have NB177_166 := n18_
             clear n0_ n1_ n2_ n3_ n4_ n5_ n6_ n7_ n8_ n9_ n10_ n11_ n12_ n13_ n14_ n15_ n16_ n17_ n18_
             clear hb hbox hg
             refine hK.out _ _ ⟨(blk_cell BK152.out 0).trans rfl, (blk_cell BK152.out 1).trans rfl, (blk_cell BK153.out 0).trans rfl, (blk_cell BK153.out 1).trans rfl, (blk_cell BK154.out 0).trans rfl, (blk_cell BK154.out 1).trans rfl, (blk_cell BK155.out 0).trans rfl, (blk_cell BK155.out 1).trans rfl⟩ (fun hHeld => ?_)
             clear hK K
             refine norm_ (a' := ?_) ?_ ?_
             rotate_left
             ·show Act.put _ (some 12) _ = _
              simp only [Act.put, List.setIfInBounds_toArray, List.set_cons_zero, List.set_cons_succ, i64_w, i32_w]
              rfl
             exact norm_ (by first | (simp only [putAll, Act.put, List.setIfInBounds_toArray, List.set_cons_zero, List.set_cons_succ]; done) | (simp only [putAll, Act.put, List.setIfInBounds_toArray, List.set_cons_zero, List.set_cons_succ]; rfl)) (hJ1_10 (gb177) _ ⟨hHeld, (by exact BK152.out), (by exact BK153.out), (by exact BK154.out), (by exact BK155.out), (by exact BK166.out), (by exact BK177.out), GW177.out, GE177.out, NB152_177.out, NB177_152.out, NB153_177.out, NB177_153.out, NB154_177.out, NB177_154.out, NB155_177.out, NB177_155.out, NB166_177.out, NB177_166.out, (by repeat (first | (with_reducible first | exact HB.out | apply below_alloc | apply pw_below_drewN | apply below_drew1 | refine below_set ?_ GE152.out | refine below_set ?_ GE153.out | refine below_set ?_ GE154.out | refine below_set ?_ GE155.out | refine below_set ?_ GE166.out | refine below_set ?_ GE177.out) | exact HB.out))⟩)
          ·skip
           rintro gb177 w36 ⟨hS_, h0_, h1_, h2_, h3_, h4_, h5_, h6_, h7_, h8_, h9_, h10_, h11_, h12_, h13_, h14_, h15_, h16_, h17_, h18_⟩
           have n0_ : Aside0 (w36.heap[gb152]? = some (.cells #[.int .i64 a0_0, .int .i64 a0_1] 23 (0, 0))) := ⟨h0_⟩
           have n1_ : Aside0 (w36.heap[gb153]? = some (.cells #[.int .i64 a1_0, .int .i64 a1_1] 23 (0, 0))) := ⟨h1_⟩
           have n2_ : Aside0 (w36.heap[gb154]? = some (.cells #[.int .i64 a2_0, .int .i64 a2_1] 23 (0, 0))) := ⟨h2_⟩
           have n3_ : Aside0 (w36.heap[gb155]? = some (.cells #[.int .i64 a3_0, .int .i64 a3_1] 23 (0, 0))) := ⟨h3_⟩
           have n4_ : Aside0 (w36.heap[gb166]? = some (.cells #[.int .i64 t164, .int .i64 t165] 24 (0, 0))) := ⟨h4_⟩
           have n5_ : Aside0 (w36.heap[gb177]? = some (.cells #[.int .i64 0, .int .i64 0] 24 (0, 0))) := ⟨h5_⟩
           have n6_ : Aside0 (w.heap.size ≤ gb177) := ⟨h6_⟩
           have n7_ : Aside0 (w.heap.size ≤ gb177) := ⟨h7_⟩
           have n8_ : Aside0 (gb152 ≠ gb177) := ⟨h8_⟩
           have n9_ : Aside0 (gb177 ≠ gb152) := ⟨h9_⟩
           have n10_ : Aside0 (gb153 ≠ gb177) := ⟨h10_⟩
           have n11_ : Aside0 (gb177 ≠ gb153) := ⟨h11_⟩
           have n12_ : Aside0 (gb154 ≠ gb177) := ⟨h12_⟩
           have n13_ : Aside0 (gb177 ≠ gb154) := ⟨h13_⟩
           have n14_ : Aside0 (gb155 ≠ gb177) := ⟨h14_⟩
           have n15_ : Aside0 (gb177 ≠ gb155) := ⟨h15_⟩
           have n16_ : Aside0 (gb166 ≠ gb177) := ⟨h16_⟩
           have n17_ : Aside0 (gb177 ≠ gb166) := ⟨h17_⟩
           have n18_ : Aside0 (Below w.heap.size w w36) := ⟨h18_⟩
           clear BK152
           clear BK153
           clear BK154
           clear BK155
           clear BK166
           clear HB
           clear h0_ h1_ h2_ h3_ h4_ h5_ h6_ h7_ h8_ h9_ h10_ h11_ h12_ h13_ h14_ h15_ h16_ h17_ h18_
           have BK152 := n0_
           have BK153 := n1_
           have BK154 := n2_
           have BK155 := n3_
           have BK166 := n4_
           have BK177 := n5_
           have GW177 := n6_
           have GE177 := n7_
           have NB152_177 := n8_
           have NB177_152 := n9_
           have NB153_177 := n10_
           have NB177_153 := n11_
           have NB154_177 := n12_
           have NB177_154 := n13_
           have NB155_177 := n14_
           have NB177_155 := n15_
           have NB166_177 := n16_
           have NB177_166 := n17_
           have HB := n18_
           clear n0_ n1_ n2_ n3_ n4_ n5_ n6_ n7_ n8_ n9_ n10_ n11_ n12_ n13_ n14_ n15_ n16_ n17_ n18_
           have hHeld : w36.cell? ⟨gb152, 0, none⟩ = some (.int .i64 a0_0) ∧ w36.cell? ⟨gb152, 1, none⟩ = some (.int .i64 a0_1) ∧ w36.cell? ⟨gb153, 0, none⟩ = some (.int .i64 a1_0) ∧ w36.cell? ⟨gb153, 1, none⟩ = some (.int .i64 a1_1) ∧ w36.cell? ⟨gb154, 0, none⟩ = some (.int .i64 a2_0) ∧ w36.cell? ⟨gb154, 1, none⟩ = some (.int .i64 a2_1) ∧ w36.cell? ⟨gb155, 0, none⟩ = some (.int .i64 a3_0) ∧ w36.cell? ⟨gb155, 1, none⟩ = some (.int .i64 a3_1) := hS_
           refine norm_ (a' := ?_) ?_ ?_
           rotate_left
           ·simp only [putAll, Act.put, List.setIfInBounds_toArray, List.set_cons_zero, List.set_cons_succ]
            rfl
           refine one_ (i := 3) (N := some 26) #[true, true, true, true, true, false, true, false, true, false, true, false] rfl rfl (one_of HT_.out (by kernel_rfl)) (by decide) (fun K hK => ?_)
           refine goes_ Try.func15 (by kernel_rfl) rfl #[.agg #[.int .i64 a1_0, .int .i64 a1_1]] (by rfl) rfl rfl (by (try simp only [List.map_toArray, List.map_cons, List.map_nil]); first | done | rfl | (simp only [List.length_drop, List.length_take]; rfl)) ?_
           with_reducible refine (laws_toPoint.calls a1_0 a1_1 t169 t170 _ A12.out).mono ?_
           rintro e w37 ⟨rfl, hb⟩
           refine ⟨_, rfl, ?_⟩
           have n0_ := Aside0.mk (blk_below (g := gb152) (o := .cells #[.int .i64 a0_0, .int .i64 a0_1] 23 (0, 0)) (by exact BK152.out) hb)
           have n1_ := Aside0.mk (blk_below (g := gb153) (o := .cells #[.int .i64 a1_0, .int .i64 a1_1] 23 (0, 0)) (by exact BK153.out) hb)
           have n2_ := Aside0.mk (blk_below (g := gb154) (o := .cells #[.int .i64 a2_0, .int .i64 a2_1] 23 (0, 0)) (by exact BK154.out) hb)
           have n3_ := Aside0.mk (blk_below (g := gb155) (o := .cells #[.int .i64 a3_0, .int .i64 a3_1] 23 (0, 0)) (by exact BK155.out) hb)
           have n4_ := Aside0.mk (blk_below (g := gb166) (o := .cells #[.int .i64 t164, .int .i64 t165] 24 (0, 0)) (by exact BK166.out) hb)
           have n5_ := Aside0.mk (blk_below (g := gb177) (o := .cells #[.int .i64 0, .int .i64 0] 24 (0, 0)) (by exact BK177.out) hb)
           have n6_ := Aside0.mk (below_step (by repeat (first | (with_reducible first | exact HB.out | apply below_alloc | apply pw_below_drewN | apply below_drew1 | refine below_set ?_ GE152.out | refine below_set ?_ GE153.out | refine below_set ?_ GE154.out | refine below_set ?_ GE155.out | refine below_set ?_ GE166.out | refine below_set ?_ GE177.out) | exact HB.out)) hb)
           clear BK152
           clear BK153
           clear BK154
           clear BK155
           clear BK166
           clear BK177
           clear HB
           have BK152 := n0_
           have BK153 := n1_
           have BK154 := n2_
           have BK155 := n3_
           have BK166 := n4_
           have BK177 := n5_
           have HB := n6_
           clear n0_ n1_ n2_ n3_ n4_ n5_ n6_
           (try clear hb)
           (try clear hb2)
           (try clear hk)
           (try clear hi)
           refine hK.out _ _ ⟨(blk_cell BK152.out 0).trans rfl, (blk_cell BK152.out 1).trans rfl, (blk_cell BK153.out 0).trans rfl, (blk_cell BK153.out 1).trans rfl, (blk_cell BK154.out 0).trans rfl, (blk_cell BK154.out 1).trans rfl, (blk_cell BK155.out 0).trans rfl, (blk_cell BK155.out 1).trans rfl⟩ (fun hHeld => ?_)
           clear hK K
           refine norm_ (a' := ?_) ?_ ?_
           rotate_left
           ·show Act.put _ (some 26) _ = _
            simp only [Act.put, List.setIfInBounds_toArray, List.set_cons_zero, List.set_cons_succ, i64_w, i32_w]
            rfl
           exact norm_ (by first | (simp only [putAll, Act.put, List.setIfInBounds_toArray, List.set_cons_zero, List.set_cons_succ]; done) | (simp only [putAll, Act.put, List.setIfInBounds_toArray, List.set_cons_zero, List.set_cons_succ]; rfl)) (hJ1_3_10 (gb177) _ ⟨hHeld, (by exact BK152.out), (by exact BK153.out), (by exact BK154.out), (by exact BK155.out), (by exact BK166.out), (by exact BK177.out), GW177.out, GE177.out, NB152_177.out, NB177_152.out, NB153_177.out, NB177_153.out, NB154_177.out, NB177_154.out, NB155_177.out, NB177_155.out, NB166_177.out, NB177_166.out, (by repeat (first | (with_reducible first | exact HB.out | apply below_alloc | apply pw_below_drewN | apply below_drew1 | refine below_set ?_ GE152.out | refine below_set ?_ GE153.out | refine below_set ?_ GE154.out | refine below_set ?_ GE155.out | refine below_set ?_ GE166.out | refine below_set ?_ GE177.out) | exact HB.out))⟩)
         ·skip
          rintro _ w36 ⟨hS_, h0_, h1_, h2_, h3_, h4_, h5_⟩
          have n0_ : Aside0 (w36.heap[gb152]? = some (.cells #[.int .i64 a0_0, .int .i64 a0_1] 23 (0, 0))) := ⟨h0_⟩
          have n1_ : Aside0 (w36.heap[gb153]? = some (.cells #[.int .i64 a1_0, .int .i64 a1_1] 23 (0, 0))) := ⟨h1_⟩
          have n2_ : Aside0 (w36.heap[gb154]? = some (.cells #[.int .i64 a2_0, .int .i64 a2_1] 23 (0, 0))) := ⟨h2_⟩
          have n3_ : Aside0 (w36.heap[gb155]? = some (.cells #[.int .i64 a3_0, .int .i64 a3_1] 23 (0, 0))) := ⟨h3_⟩
          have n4_ : Aside0 (w36.heap[gb166]? = some (.cells #[.int .i64 t164, .int .i64 t165] 24 (0, 0))) := ⟨h4_⟩
          have n5_ : Aside0 (Below w.heap.size w w36) := ⟨h5_⟩
          clear BK152
          clear BK153
          clear BK154
          clear BK155
          clear BK166
          clear HB
          clear h0_ h1_ h2_ h3_ h4_ h5_
          have BK152 := n0_
          have BK153 := n1_
          have BK154 := n2_
          have BK155 := n3_
          have BK166 := n4_
          have HB := n5_
          clear n0_ n1_ n2_ n3_ n4_ n5_
          have hHeld : w36.cell? ⟨gb152, 0, none⟩ = some (.int .i64 a0_0) ∧ w36.cell? ⟨gb152, 1, none⟩ = some (.int .i64 a0_1) ∧ w36.cell? ⟨gb153, 0, none⟩ = some (.int .i64 a1_0) ∧ w36.cell? ⟨gb153, 1, none⟩ = some (.int .i64 a1_1) ∧ w36.cell? ⟨gb154, 0, none⟩ = some (.int .i64 a2_0) ∧ w36.cell? ⟨gb154, 1, none⟩ = some (.int .i64 a2_1) ∧ w36.cell? ⟨gb155, 0, none⟩ = some (.int .i64 a3_0) ∧ w36.cell? ⟨gb155, 1, none⟩ = some (.int .i64 a3_1) := hS_
          refine norm_ (a' := ?_) ?_ ?_
          rotate_left
          ·simp only [putAll, Act.put, List.setIfInBounds_toArray, List.set_cons_zero, List.set_cons_succ]
           rfl
          refine two_ (i := 5) (j := 10) (Ni := some 28) (Nj := some 12) #[true, true, true, true, true, true, true, false, true, false, false, false] #[true, true, true, true, true, false, true, false, true, false, true, false] rfl rfl rfl rfl (two_of HT_.out (by kernel_rfl)) (by decide) (by decide) (fun K hK => ?_) (fun K hK => ?_)
          ·skip
           refine goes_ Try.func15 (by kernel_rfl) rfl #[.agg #[.int .i64 a2_0, .int .i64 a2_1]] (by rfl) rfl rfl (by (try simp only [List.map_toArray, List.map_cons, List.map_nil]); first | done | rfl | (simp only [List.length_drop, List.length_take]; rfl)) ?_
           with_reducible refine (laws_toPoint.calls a2_0 a2_1 t171 t172 _ A13.out).mono ?_
           rintro e w37 ⟨rfl, hb⟩
           refine ⟨_, rfl, ?_⟩
           have n0_ := Aside0.mk (blk_below (g := gb152) (o := .cells #[.int .i64 a0_0, .int .i64 a0_1] 23 (0, 0)) (by exact BK152.out) hb)
           have n1_ := Aside0.mk (blk_below (g := gb153) (o := .cells #[.int .i64 a1_0, .int .i64 a1_1] 23 (0, 0)) (by exact BK153.out) hb)
           have n2_ := Aside0.mk (blk_below (g := gb154) (o := .cells #[.int .i64 a2_0, .int .i64 a2_1] 23 (0, 0)) (by exact BK154.out) hb)
           have n3_ := Aside0.mk (blk_below (g := gb155) (o := .cells #[.int .i64 a3_0, .int .i64 a3_1] 23 (0, 0)) (by exact BK155.out) hb)
           have n4_ := Aside0.mk (blk_below (g := gb166) (o := .cells #[.int .i64 t164, .int .i64 t165] 24 (0, 0)) (by exact BK166.out) hb)
           have n5_ := Aside0.mk (below_step (by repeat (first | (with_reducible first | exact HB.out | apply below_alloc | apply pw_below_drewN | apply below_drew1 | refine below_set ?_ GE152.out | refine below_set ?_ GE153.out | refine below_set ?_ GE154.out | refine below_set ?_ GE155.out | refine below_set ?_ GE166.out) | exact HB.out)) hb)
           clear BK152
           clear BK153
           clear BK154
           clear BK155
           clear BK166
           clear HB
           have BK152 := n0_
           have BK153 := n1_
           have BK154 := n2_
           have BK155 := n3_
           have BK166 := n4_
           have HB := n5_
           clear n0_ n1_ n2_ n3_ n4_ n5_
           (try clear hb)
           (try clear hb2)
           (try clear hk)
           (try clear hi)
           refine hK.out _ _ ⟨(blk_cell BK152.out 0).trans rfl, (blk_cell BK152.out 1).trans rfl, (blk_cell BK153.out 0).trans rfl, (blk_cell BK153.out 1).trans rfl, (blk_cell BK154.out 0).trans rfl, (blk_cell BK154.out 1).trans rfl, (blk_cell BK155.out 0).trans rfl, (blk_cell BK155.out 1).trans rfl⟩ (fun hHeld => ?_)
           clear hK K
           refine norm_ (a' := ?_) ?_ ?_
           rotate_left
           ·show Act.put _ (some 28) _ = _
            simp only [Act.put, List.setIfInBounds_toArray, List.set_cons_zero, List.set_cons_succ, i64_w, i32_w]
            rfl
           exact norm_ (by first | (simp only [putAll, Act.put, List.setIfInBounds_toArray, List.set_cons_zero, List.set_cons_succ]; done) | (simp only [putAll, Act.put, List.setIfInBounds_toArray, List.set_cons_zero, List.set_cons_succ]; rfl)) (hJ1_3_5 () _ ⟨hHeld, (by exact BK152.out), (by exact BK153.out), (by exact BK154.out), (by exact BK155.out), (by exact BK166.out), (by repeat (first | (with_reducible first | exact HB.out | apply below_alloc | apply pw_below_drewN | apply below_drew1 | refine below_set ?_ GE152.out | refine below_set ?_ GE153.out | refine below_set ?_ GE154.out | refine below_set ?_ GE155.out | refine below_set ?_ GE166.out) | exact HB.out))⟩)
          ·skip
           refine box_step ?hg (N := 12) ?hd (cs := #[.int .i64 0, .int .i64 0]) (t := 24) ?hr ?_; (case hd => rfl); (case hg => rfl); (case hr => first | (go_simp; done) | (go_simp; rfl))
           intro gb177 hg w37 hbox hb
           have n0_ := Aside0.mk (blk_below (g := gb152) (o := .cells #[.int .i64 a0_0, .int .i64 a0_1] 23 (0, 0)) (by exact BK152.out) hb)
           have n1_ := Aside0.mk (blk_below (g := gb153) (o := .cells #[.int .i64 a1_0, .int .i64 a1_1] 23 (0, 0)) (by exact BK153.out) hb)
           have n2_ := Aside0.mk (blk_below (g := gb154) (o := .cells #[.int .i64 a2_0, .int .i64 a2_1] 23 (0, 0)) (by exact BK154.out) hb)
           have n3_ := Aside0.mk (blk_below (g := gb155) (o := .cells #[.int .i64 a3_0, .int .i64 a3_1] 23 (0, 0)) (by exact BK155.out) hb)
           have n4_ := Aside0.mk (blk_below (g := gb166) (o := .cells #[.int .i64 t164, .int .i64 t165] 24 (0, 0)) (by exact BK166.out) hb)
           have n5_ := Aside0.mk (below_step (by repeat (first | (with_reducible first | exact HB.out | apply below_alloc | apply pw_below_drewN | apply below_drew1 | refine below_set ?_ GE152.out | refine below_set ?_ GE153.out | refine below_set ?_ GE154.out | refine below_set ?_ GE155.out | refine below_set ?_ GE166.out) | exact HB.out)) hb)
           have n6_ := Aside0.mk (hbox)
           have n7_ := Aside0.mk ((by rw [hg]; exact (below_size (by repeat (first | (with_reducible first | exact HB.out | apply below_alloc | apply pw_below_drewN | apply below_drew1 | refine below_set ?_ GE152.out | refine below_set ?_ GE153.out | refine below_set ?_ GE154.out | refine below_set ?_ GE155.out | refine below_set ?_ GE166.out) | exact HB.out))) : w.heap.size ≤ gb177))
           have n8_ := Aside0.mk ((by rw [hg]; exact (below_size (by repeat (first | (with_reducible first | exact HB.out | apply below_alloc | apply pw_below_drewN | apply below_drew1 | refine below_set ?_ GE152.out | refine below_set ?_ GE153.out | refine below_set ?_ GE154.out | refine below_set ?_ GE155.out | refine below_set ?_ GE166.out) | exact HB.out))) : w.heap.size ≤ gb177))
           have n9_ := Aside0.mk ((by rw [hg]; exact Nat.ne_of_lt (blk_lt (g := gb152) (o := .cells #[.int .i64 a0_0, .int .i64 a0_1] 23 (0, 0)) (by exact BK152.out)) : gb152 ≠ gb177))
           have n10_ := Aside0.mk ((by rw [hg]; exact Nat.ne_of_gt (blk_lt (g := gb152) (o := .cells #[.int .i64 a0_0, .int .i64 a0_1] 23 (0, 0)) (by exact BK152.out)) : gb177 ≠ gb152))
           have n11_ := Aside0.mk ((by rw [hg]; exact Nat.ne_of_lt (blk_lt (g := gb153) (o := .cells #[.int .i64 a1_0, .int .i64 a1_1] 23 (0, 0)) (by exact BK153.out)) : gb153 ≠ gb177))
           have n12_ := Aside0.mk ((by rw [hg]; exact Nat.ne_of_gt (blk_lt (g := gb153) (o := .cells #[.int .i64 a1_0, .int .i64 a1_1] 23 (0, 0)) (by exact BK153.out)) : gb177 ≠ gb153))
           have n13_ := Aside0.mk ((by rw [hg]; exact Nat.ne_of_lt (blk_lt (g := gb154) (o := .cells #[.int .i64 a2_0, .int .i64 a2_1] 23 (0, 0)) (by exact BK154.out)) : gb154 ≠ gb177))
           have n14_ := Aside0.mk ((by rw [hg]; exact Nat.ne_of_gt (blk_lt (g := gb154) (o := .cells #[.int .i64 a2_0, .int .i64 a2_1] 23 (0, 0)) (by exact BK154.out)) : gb177 ≠ gb154))
           have n15_ := Aside0.mk ((by rw [hg]; exact Nat.ne_of_lt (blk_lt (g := gb155) (o := .cells #[.int .i64 a3_0, .int .i64 a3_1] 23 (0, 0)) (by exact BK155.out)) : gb155 ≠ gb177))
           have n16_ := Aside0.mk ((by rw [hg]; exact Nat.ne_of_gt (blk_lt (g := gb155) (o := .cells #[.int .i64 a3_0, .int .i64 a3_1] 23 (0, 0)) (by exact BK155.out)) : gb177 ≠ gb155))
           have n17_ := Aside0.mk ((by rw [hg]; exact Nat.ne_of_lt (blk_lt (g := gb166) (o := .cells #[.int .i64 t164, .int .i64 t165] 24 (0, 0)) (by exact BK166.out)) : gb166 ≠ gb177))
           have n18_ := Aside0.mk ((by rw [hg]; exact Nat.ne_of_gt (blk_lt (g := gb166) (o := .cells #[.int .i64 t164, .int .i64 t165] 24 (0, 0)) (by exact BK166.out)) : gb177 ≠ gb166))
           clear BK152
           clear BK153
           clear BK154
           clear BK155
           clear BK166
           clear HB
           have BK152 := n0_
           have BK153 := n1_
           have BK154 := n2_
           have BK155 := n3_
           have BK166 := n4_
           have HB := n5_
           have BK177 := n6_
           have GW177 := n7_
           have GE177 := n8_
           have NB152_177 := n9_
           have NB177_152 := n10_
           have NB153_177 := n11_
           have NB177_153 := n12_
           have NB154_177 := n13_
           have NB177_154 := n14_
           have NB155_177 := n15_
           have NB177_155 := n16_
           have NB166_177 := n17_
           have NB177_166 := n18_
           clear n0_ n1_ n2_ n3_ n4_ n5_ n6_ n7_ n8_ n9_ n10_ n11_ n12_ n13_ n14_ n15_ n16_ n17_ n18_
           clear hb hbox hg
           refine hK.out _ _ ⟨(blk_cell BK152.out 0).trans rfl, (blk_cell BK152.out 1).trans rfl, (blk_cell BK153.out 0).trans rfl, (blk_cell BK153.out 1).trans rfl, (blk_cell BK154.out 0).trans rfl, (blk_cell BK154.out 1).trans rfl, (blk_cell BK155.out 0).trans rfl, (blk_cell BK155.out 1).trans rfl⟩ (fun hHeld => ?_)
           clear hK K
           refine norm_ (a' := ?_) ?_ ?_
           rotate_left
           ·show Act.put _ (some 12) _ = _
            simp only [Act.put, List.setIfInBounds_toArray, List.set_cons_zero, List.set_cons_succ, i64_w, i32_w]
            rfl
           exact norm_ (by first | (simp only [putAll, Act.put, List.setIfInBounds_toArray, List.set_cons_zero, List.set_cons_succ]; done) | (simp only [putAll, Act.put, List.setIfInBounds_toArray, List.set_cons_zero, List.set_cons_succ]; rfl)) (hJ1_3_10 (gb177) _ ⟨hHeld, (by exact BK152.out), (by exact BK153.out), (by exact BK154.out), (by exact BK155.out), (by exact BK166.out), (by exact BK177.out), GW177.out, GE177.out, NB152_177.out, NB177_152.out, NB153_177.out, NB177_153.out, NB154_177.out, NB177_154.out, NB155_177.out, NB177_155.out, NB166_177.out, NB177_166.out, (by repeat (first | (with_reducible first | exact HB.out | apply below_alloc | apply pw_below_drewN | apply below_drew1 | refine below_set ?_ GE152.out | refine below_set ?_ GE153.out | refine below_set ?_ GE154.out | refine below_set ?_ GE155.out | refine below_set ?_ GE166.out | refine below_set ?_ GE177.out) | exact HB.out))⟩)
        ·skip
         rintro gb177 w37 ⟨hS_, h0_, h1_, h2_, h3_, h4_, h5_, h6_, h7_, h8_, h9_, h10_, h11_, h12_, h13_, h14_, h15_, h16_, h17_, h18_⟩
         have n0_ : Aside0 (w37.heap[gb152]? = some (.cells #[.int .i64 a0_0, .int .i64 a0_1] 23 (0, 0))) := ⟨h0_⟩
         have n1_ : Aside0 (w37.heap[gb153]? = some (.cells #[.int .i64 a1_0, .int .i64 a1_1] 23 (0, 0))) := ⟨h1_⟩
         have n2_ : Aside0 (w37.heap[gb154]? = some (.cells #[.int .i64 a2_0, .int .i64 a2_1] 23 (0, 0))) := ⟨h2_⟩
         have n3_ : Aside0 (w37.heap[gb155]? = some (.cells #[.int .i64 a3_0, .int .i64 a3_1] 23 (0, 0))) := ⟨h3_⟩
         have n4_ : Aside0 (w37.heap[gb166]? = some (.cells #[.int .i64 t164, .int .i64 t165] 24 (0, 0))) := ⟨h4_⟩
         have n5_ : Aside0 (w37.heap[gb177]? = some (.cells #[.int .i64 0, .int .i64 0] 24 (0, 0))) := ⟨h5_⟩
         have n6_ : Aside0 (w.heap.size ≤ gb177) := ⟨h6_⟩
         have n7_ : Aside0 (w.heap.size ≤ gb177) := ⟨h7_⟩
         have n8_ : Aside0 (gb152 ≠ gb177) := ⟨h8_⟩
         have n9_ : Aside0 (gb177 ≠ gb152) := ⟨h9_⟩
         have n10_ : Aside0 (gb153 ≠ gb177) := ⟨h10_⟩
         have n11_ : Aside0 (gb177 ≠ gb153) := ⟨h11_⟩
         have n12_ : Aside0 (gb154 ≠ gb177) := ⟨h12_⟩
         have n13_ : Aside0 (gb177 ≠ gb154) := ⟨h13_⟩
         have n14_ : Aside0 (gb155 ≠ gb177) := ⟨h14_⟩
         have n15_ : Aside0 (gb177 ≠ gb155) := ⟨h15_⟩
         have n16_ : Aside0 (gb166 ≠ gb177) := ⟨h16_⟩
         have n17_ : Aside0 (gb177 ≠ gb166) := ⟨h17_⟩
         have n18_ : Aside0 (Below w.heap.size w w37) := ⟨h18_⟩
         clear BK152
         clear BK153
         clear BK154
         clear BK155
         clear BK166
         clear HB
         clear h0_ h1_ h2_ h3_ h4_ h5_ h6_ h7_ h8_ h9_ h10_ h11_ h12_ h13_ h14_ h15_ h16_ h17_ h18_
         have BK152 := n0_
         have BK153 := n1_
         have BK154 := n2_
         have BK155 := n3_
         have BK166 := n4_
         have BK177 := n5_
         have GW177 := n6_
         have GE177 := n7_
         have NB152_177 := n8_
         have NB177_152 := n9_
         have NB153_177 := n10_
         have NB177_153 := n11_
         have NB154_177 := n12_
         have NB177_154 := n13_
         have NB155_177 := n14_
         have NB177_155 := n15_
         have NB166_177 := n16_
         have NB177_166 := n17_
         have HB := n18_
         clear n0_ n1_ n2_ n3_ n4_ n5_ n6_ n7_ n8_ n9_ n10_ n11_ n12_ n13_ n14_ n15_ n16_ n17_ n18_
         have hHeld : w37.cell? ⟨gb152, 0, none⟩ = some (.int .i64 a0_0) ∧ w37.cell? ⟨gb152, 1, none⟩ = some (.int .i64 a0_1) ∧ w37.cell? ⟨gb153, 0, none⟩ = some (.int .i64 a1_0) ∧ w37.cell? ⟨gb153, 1, none⟩ = some (.int .i64 a1_1) ∧ w37.cell? ⟨gb154, 0, none⟩ = some (.int .i64 a2_0) ∧ w37.cell? ⟨gb154, 1, none⟩ = some (.int .i64 a2_1) ∧ w37.cell? ⟨gb155, 0, none⟩ = some (.int .i64 a3_0) ∧ w37.cell? ⟨gb155, 1, none⟩ = some (.int .i64 a3_1) := hS_
         refine norm_ (a' := ?_) ?_ ?_
         rotate_left
         ·simp only [putAll, Act.put, List.setIfInBounds_toArray, List.set_cons_zero, List.set_cons_succ]
          rfl
         refine one_ (i := 5) (N := some 28) #[true, true, true, true, true, true, true, false, true, false, true, false] rfl rfl (one_of HT_.out (by kernel_rfl)) (by decide) (fun K hK => ?_)
         refine goes_ Try.func15 (by kernel_rfl) rfl #[.agg #[.int .i64 a2_0, .int .i64 a2_1]] (by rfl) rfl rfl (by (try simp only [List.map_toArray, List.map_cons, List.map_nil]); first | done | rfl | (simp only [List.length_drop, List.length_take]; rfl)) ?_
         with_reducible refine (laws_toPoint.calls a2_0 a2_1 t171 t172 _ A13.out).mono ?_
         rintro e w38 ⟨rfl, hb⟩
         refine ⟨_, rfl, ?_⟩
         have n0_ := Aside0.mk (blk_below (g := gb152) (o := .cells #[.int .i64 a0_0, .int .i64 a0_1] 23 (0, 0)) (by exact BK152.out) hb)
         have n1_ := Aside0.mk (blk_below (g := gb153) (o := .cells #[.int .i64 a1_0, .int .i64 a1_1] 23 (0, 0)) (by exact BK153.out) hb)
         have n2_ := Aside0.mk (blk_below (g := gb154) (o := .cells #[.int .i64 a2_0, .int .i64 a2_1] 23 (0, 0)) (by exact BK154.out) hb)
         have n3_ := Aside0.mk (blk_below (g := gb155) (o := .cells #[.int .i64 a3_0, .int .i64 a3_1] 23 (0, 0)) (by exact BK155.out) hb)
         have n4_ := Aside0.mk (blk_below (g := gb166) (o := .cells #[.int .i64 t164, .int .i64 t165] 24 (0, 0)) (by exact BK166.out) hb)
         have n5_ := Aside0.mk (blk_below (g := gb177) (o := .cells #[.int .i64 0, .int .i64 0] 24 (0, 0)) (by exact BK177.out) hb)
         have n6_ := Aside0.mk (below_step (by repeat (first | (with_reducible first | exact HB.out | apply below_alloc | apply pw_below_drewN | apply below_drew1 | refine below_set ?_ GE152.out | refine below_set ?_ GE153.out | refine below_set ?_ GE154.out | refine below_set ?_ GE155.out | refine below_set ?_ GE166.out | refine below_set ?_ GE177.out) | exact HB.out)) hb)
         clear BK152
         clear BK153
         clear BK154
         clear BK155
         clear BK166
         clear BK177
         clear HB
         have BK152 := n0_
         have BK153 := n1_
         have BK154 := n2_
         have BK155 := n3_
         have BK166 := n4_
         have BK177 := n5_
         have HB := n6_
         clear n0_ n1_ n2_ n3_ n4_ n5_ n6_
         (try clear hb)
         (try clear hb2)
         (try clear hk)
         (try clear hi)
         refine hK.out _ _ ⟨(blk_cell BK152.out 0).trans rfl, (blk_cell BK152.out 1).trans rfl, (blk_cell BK153.out 0).trans rfl, (blk_cell BK153.out 1).trans rfl, (blk_cell BK154.out 0).trans rfl, (blk_cell BK154.out 1).trans rfl, (blk_cell BK155.out 0).trans rfl, (blk_cell BK155.out 1).trans rfl⟩ (fun hHeld => ?_)
         clear hK K
         refine norm_ (a' := ?_) ?_ ?_
         rotate_left
         ·show Act.put _ (some 28) _ = _
          simp only [Act.put, List.setIfInBounds_toArray, List.set_cons_zero, List.set_cons_succ, i64_w, i32_w]
          rfl
         exact norm_ (by first | (simp only [putAll, Act.put, List.setIfInBounds_toArray, List.set_cons_zero, List.set_cons_succ]; done) | (simp only [putAll, Act.put, List.setIfInBounds_toArray, List.set_cons_zero, List.set_cons_succ]; rfl)) (hJ1_3_5_10 (gb177) _ ⟨hHeld, (by exact BK152.out), (by exact BK153.out), (by exact BK154.out), (by exact BK155.out), (by exact BK166.out), (by exact BK177.out), GW177.out, GE177.out, NB152_177.out, NB177_152.out, NB153_177.out, NB177_153.out, NB154_177.out, NB177_154.out, NB155_177.out, NB177_155.out, NB166_177.out, NB177_166.out, (by repeat (first | (with_reducible first | exact HB.out | apply below_alloc | apply pw_below_drewN | apply below_drew1 | refine below_set ?_ GE152.out | refine below_set ?_ GE153.out | refine below_set ?_ GE154.out | refine below_set ?_ GE155.out | refine below_set ?_ GE166.out | refine below_set ?_ GE177.out) | exact HB.out))⟩)
       ·skip
        rintro _ w37 ⟨hS_, h0_, h1_, h2_, h3_, h4_, h5_⟩
        have n0_ : Aside0 (w37.heap[gb152]? = some (.cells #[.int .i64 a0_0, .int .i64 a0_1] 23 (0, 0))) := ⟨h0_⟩
        have n1_ : Aside0 (w37.heap[gb153]? = some (.cells #[.int .i64 a1_0, .int .i64 a1_1] 23 (0, 0))) := ⟨h1_⟩
        have n2_ : Aside0 (w37.heap[gb154]? = some (.cells #[.int .i64 a2_0, .int .i64 a2_1] 23 (0, 0))) := ⟨h2_⟩
        have n3_ : Aside0 (w37.heap[gb155]? = some (.cells #[.int .i64 a3_0, .int .i64 a3_1] 23 (0, 0))) := ⟨h3_⟩
        have n4_ : Aside0 (w37.heap[gb166]? = some (.cells #[.int .i64 t164, .int .i64 t165] 24 (0, 0))) := ⟨h4_⟩
        have n5_ : Aside0 (Below w.heap.size w w37) := ⟨h5_⟩
        clear BK152
        clear BK153
        clear BK154
        clear BK155
        clear BK166
        clear HB
        clear h0_ h1_ h2_ h3_ h4_ h5_
        have BK152 := n0_
        have BK153 := n1_
        have BK154 := n2_
        have BK155 := n3_
        have BK166 := n4_
        have HB := n5_
        clear n0_ n1_ n2_ n3_ n4_ n5_
        have hHeld : w37.cell? ⟨gb152, 0, none⟩ = some (.int .i64 a0_0) ∧ w37.cell? ⟨gb152, 1, none⟩ = some (.int .i64 a0_1) ∧ w37.cell? ⟨gb153, 0, none⟩ = some (.int .i64 a1_0) ∧ w37.cell? ⟨gb153, 1, none⟩ = some (.int .i64 a1_1) ∧ w37.cell? ⟨gb154, 0, none⟩ = some (.int .i64 a2_0) ∧ w37.cell? ⟨gb154, 1, none⟩ = some (.int .i64 a2_1) ∧ w37.cell? ⟨gb155, 0, none⟩ = some (.int .i64 a3_0) ∧ w37.cell? ⟨gb155, 1, none⟩ = some (.int .i64 a3_1) := hS_
        refine norm_ (a' := ?_) ?_ ?_
        rotate_left
        ·simp only [putAll, Act.put, List.setIfInBounds_toArray, List.set_cons_zero, List.set_cons_succ]
         rfl
        refine two_ (i := 7) (j := 10) (Ni := some 30) (Nj := some 12) #[true, true, true, true, true, true, true, true, true, false, false, false] #[true, true, true, true, true, true, true, false, true, false, true, false] rfl rfl rfl rfl (two_of HT_.out (by kernel_rfl)) (by decide) (by decide) (fun K hK => ?_) (fun K hK => ?_)
        ·skip
         refine goes_ Try.func15 (by kernel_rfl) rfl #[.agg #[.int .i64 a3_0, .int .i64 a3_1]] (by rfl) rfl rfl (by (try simp only [List.map_toArray, List.map_cons, List.map_nil]); first | done | rfl | (simp only [List.length_drop, List.length_take]; rfl)) ?_
         with_reducible refine (laws_toPoint.calls a3_0 a3_1 t173 t174 _ A14.out).mono ?_
         rintro e w38 ⟨rfl, hb⟩
         refine ⟨_, rfl, ?_⟩
         have n0_ := Aside0.mk (blk_below (g := gb152) (o := .cells #[.int .i64 a0_0, .int .i64 a0_1] 23 (0, 0)) (by exact BK152.out) hb)
         have n1_ := Aside0.mk (blk_below (g := gb153) (o := .cells #[.int .i64 a1_0, .int .i64 a1_1] 23 (0, 0)) (by exact BK153.out) hb)
         have n2_ := Aside0.mk (blk_below (g := gb154) (o := .cells #[.int .i64 a2_0, .int .i64 a2_1] 23 (0, 0)) (by exact BK154.out) hb)
         have n3_ := Aside0.mk (blk_below (g := gb155) (o := .cells #[.int .i64 a3_0, .int .i64 a3_1] 23 (0, 0)) (by exact BK155.out) hb)
         have n4_ := Aside0.mk (blk_below (g := gb166) (o := .cells #[.int .i64 t164, .int .i64 t165] 24 (0, 0)) (by exact BK166.out) hb)
         have n5_ := Aside0.mk (below_step (by repeat (first | (with_reducible first | exact HB.out | apply below_alloc | apply pw_below_drewN | apply below_drew1 | refine below_set ?_ GE152.out | refine below_set ?_ GE153.out | refine below_set ?_ GE154.out | refine below_set ?_ GE155.out | refine below_set ?_ GE166.out) | exact HB.out)) hb)
         clear BK152
         clear BK153
         clear BK154
         clear BK155
         clear BK166
         clear HB
         have BK152 := n0_
         have BK153 := n1_
         have BK154 := n2_
         have BK155 := n3_
         have BK166 := n4_
         have HB := n5_
         clear n0_ n1_ n2_ n3_ n4_ n5_
         (try clear hb)
         (try clear hb2)
         (try clear hk)
         (try clear hi)
         refine hK.out _ _ ⟨(blk_cell BK152.out 0).trans rfl, (blk_cell BK152.out 1).trans rfl, (blk_cell BK153.out 0).trans rfl, (blk_cell BK153.out 1).trans rfl, (blk_cell BK154.out 0).trans rfl, (blk_cell BK154.out 1).trans rfl, (blk_cell BK155.out 0).trans rfl, (blk_cell BK155.out 1).trans rfl⟩ (fun hHeld => ?_)
         clear hK K
         refine norm_ (a' := ?_) ?_ ?_
         rotate_left
         ·show Act.put _ (some 30) _ = _
          simp only [Act.put, List.setIfInBounds_toArray, List.set_cons_zero, List.set_cons_succ, i64_w, i32_w]
          rfl
         exact norm_ (by first | (simp only [putAll, Act.put, List.setIfInBounds_toArray, List.set_cons_zero, List.set_cons_succ]; done) | (simp only [putAll, Act.put, List.setIfInBounds_toArray, List.set_cons_zero, List.set_cons_succ]; rfl)) (hJ1_3_5_7 () _ ⟨hHeld, (by exact BK152.out), (by exact BK153.out), (by exact BK154.out), (by exact BK155.out), (by exact BK166.out), (by repeat (first | (with_reducible first | exact HB.out | apply below_alloc | apply pw_below_drewN | apply below_drew1 | refine below_set ?_ GE152.out | refine below_set ?_ GE153.out | refine below_set ?_ GE154.out | refine below_set ?_ GE155.out | refine below_set ?_ GE166.out) | exact HB.out))⟩)
        ·skip
         refine box_step ?hg (N := 12) ?hd (cs := #[.int .i64 0, .int .i64 0]) (t := 24) ?hr ?_; (case hd => rfl); (case hg => rfl); (case hr => first | (go_simp; done) | (go_simp; rfl))
         intro gb177 hg w38 hbox hb
         have n0_ := Aside0.mk (blk_below (g := gb152) (o := .cells #[.int .i64 a0_0, .int .i64 a0_1] 23 (0, 0)) (by exact BK152.out) hb)
         have n1_ := Aside0.mk (blk_below (g := gb153) (o := .cells #[.int .i64 a1_0, .int .i64 a1_1] 23 (0, 0)) (by exact BK153.out) hb)
         have n2_ := Aside0.mk (blk_below (g := gb154) (o := .cells #[.int .i64 a2_0, .int .i64 a2_1] 23 (0, 0)) (by exact BK154.out) hb)
         have n3_ := Aside0.mk (blk_below (g := gb155) (o := .cells #[.int .i64 a3_0, .int .i64 a3_1] 23 (0, 0)) (by exact BK155.out) hb)
         have n4_ := Aside0.mk (blk_below (g := gb166) (o := .cells #[.int .i64 t164, .int .i64 t165] 24 (0, 0)) (by exact BK166.out) hb)
         have n5_ := Aside0.mk (below_step (by repeat (first | (with_reducible first | exact HB.out | apply below_alloc | apply pw_below_drewN | apply below_drew1 | refine below_set ?_ GE152.out | refine below_set ?_ GE153.out | refine below_set ?_ GE154.out | refine below_set ?_ GE155.out | refine below_set ?_ GE166.out) | exact HB.out)) hb)
         have n6_ := Aside0.mk (hbox)
         have n7_ := Aside0.mk ((by rw [hg]; exact (below_size (by repeat (first | (with_reducible first | exact HB.out | apply below_alloc | apply pw_below_drewN | apply below_drew1 | refine below_set ?_ GE152.out | refine below_set ?_ GE153.out | refine below_set ?_ GE154.out | refine below_set ?_ GE155.out | refine below_set ?_ GE166.out) | exact HB.out))) : w.heap.size ≤ gb177))
         have n8_ := Aside0.mk ((by rw [hg]; exact (below_size (by repeat (first | (with_reducible first | exact HB.out | apply below_alloc | apply pw_below_drewN | apply below_drew1 | refine below_set ?_ GE152.out | refine below_set ?_ GE153.out | refine below_set ?_ GE154.out | refine below_set ?_ GE155.out | refine below_set ?_ GE166.out) | exact HB.out))) : w.heap.size ≤ gb177))
         have n9_ := Aside0.mk ((by rw [hg]; exact Nat.ne_of_lt (blk_lt (g := gb152) (o := .cells #[.int .i64 a0_0, .int .i64 a0_1] 23 (0, 0)) (by exact BK152.out)) : gb152 ≠ gb177))
         have n10_ := Aside0.mk ((by rw [hg]; exact Nat.ne_of_gt (blk_lt (g := gb152) (o := .cells #[.int .i64 a0_0, .int .i64 a0_1] 23 (0, 0)) (by exact BK152.out)) : gb177 ≠ gb152))
         have n11_ := Aside0.mk ((by rw [hg]; exact Nat.ne_of_lt (blk_lt (g := gb153) (o := .cells #[.int .i64 a1_0, .int .i64 a1_1] 23 (0, 0)) (by exact BK153.out)) : gb153 ≠ gb177))
         have n12_ := Aside0.mk ((by rw [hg]; exact Nat.ne_of_gt (blk_lt (g := gb153) (o := .cells #[.int .i64 a1_0, .int .i64 a1_1] 23 (0, 0)) (by exact BK153.out)) : gb177 ≠ gb153))
         have n13_ := Aside0.mk ((by rw [hg]; exact Nat.ne_of_lt (blk_lt (g := gb154) (o := .cells #[.int .i64 a2_0, .int .i64 a2_1] 23 (0, 0)) (by exact BK154.out)) : gb154 ≠ gb177))
         have n14_ := Aside0.mk ((by rw [hg]; exact Nat.ne_of_gt (blk_lt (g := gb154) (o := .cells #[.int .i64 a2_0, .int .i64 a2_1] 23 (0, 0)) (by exact BK154.out)) : gb177 ≠ gb154))
         have n15_ := Aside0.mk ((by rw [hg]; exact Nat.ne_of_lt (blk_lt (g := gb155) (o := .cells #[.int .i64 a3_0, .int .i64 a3_1] 23 (0, 0)) (by exact BK155.out)) : gb155 ≠ gb177))
         have n16_ := Aside0.mk ((by rw [hg]; exact Nat.ne_of_gt (blk_lt (g := gb155) (o := .cells #[.int .i64 a3_0, .int .i64 a3_1] 23 (0, 0)) (by exact BK155.out)) : gb177 ≠ gb155))
         have n17_ := Aside0.mk ((by rw [hg]; exact Nat.ne_of_lt (blk_lt (g := gb166) (o := .cells #[.int .i64 t164, .int .i64 t165] 24 (0, 0)) (by exact BK166.out)) : gb166 ≠ gb177))
         have n18_ := Aside0.mk ((by rw [hg]; exact Nat.ne_of_gt (blk_lt (g := gb166) (o := .cells #[.int .i64 t164, .int .i64 t165] 24 (0, 0)) (by exact BK166.out)) : gb177 ≠ gb166))
         clear BK152
         clear BK153
         clear BK154
         clear BK155
         clear BK166
         clear HB
         have BK152 := n0_
         have BK153 := n1_
         have BK154 := n2_
         have BK155 := n3_
         have BK166 := n4_
         have HB := n5_
         have BK177 := n6_
         have GW177 := n7_
         have GE177 := n8_
         have NB152_177 := n9_
         have NB177_152 := n10_
         have NB153_177 := n11_
         have NB177_153 := n12_
         have NB154_177 := n13_
         have NB177_154 := n14_
         have NB155_177 := n15_
         have NB177_155 := n16_
         have NB166_177 := n17_
         have NB177_166 := n18_
         clear n0_ n1_ n2_ n3_ n4_ n5_ n6_ n7_ n8_ n9_ n10_ n11_ n12_ n13_ n14_ n15_ n16_ n17_ n18_
         clear hb hbox hg
         refine hK.out _ _ ⟨(blk_cell BK152.out 0).trans rfl, (blk_cell BK152.out 1).trans rfl, (blk_cell BK153.out 0).trans rfl, (blk_cell BK153.out 1).trans rfl, (blk_cell BK154.out 0).trans rfl, (blk_cell BK154.out 1).trans rfl, (blk_cell BK155.out 0).trans rfl, (blk_cell BK155.out 1).trans rfl⟩ (fun hHeld => ?_)
         clear hK K
         refine norm_ (a' := ?_) ?_ ?_
         rotate_left
         ·show Act.put _ (some 12) _ = _
          simp only [Act.put, List.setIfInBounds_toArray, List.set_cons_zero, List.set_cons_succ, i64_w, i32_w]
          rfl
         exact norm_ (by first | (simp only [putAll, Act.put, List.setIfInBounds_toArray, List.set_cons_zero, List.set_cons_succ]; done) | (simp only [putAll, Act.put, List.setIfInBounds_toArray, List.set_cons_zero, List.set_cons_succ]; rfl)) (hJ1_3_5_10 (gb177) _ ⟨hHeld, (by exact BK152.out), (by exact BK153.out), (by exact BK154.out), (by exact BK155.out), (by exact BK166.out), (by exact BK177.out), GW177.out, GE177.out, NB152_177.out, NB177_152.out, NB153_177.out, NB177_153.out, NB154_177.out, NB177_154.out, NB155_177.out, NB177_155.out, NB166_177.out, NB177_166.out, (by repeat (first | (with_reducible first | exact HB.out | apply below_alloc | apply pw_below_drewN | apply below_drew1 | refine below_set ?_ GE152.out | refine below_set ?_ GE153.out | refine below_set ?_ GE154.out | refine below_set ?_ GE155.out | refine below_set ?_ GE166.out | refine below_set ?_ GE177.out) | exact HB.out))⟩)
      ·skip
       rintro gb177 w38 ⟨hS_, h0_, h1_, h2_, h3_, h4_, h5_, h6_, h7_, h8_, h9_, h10_, h11_, h12_, h13_, h14_, h15_, h16_, h17_, h18_⟩
       have n0_ : Aside0 (w38.heap[gb152]? = some (.cells #[.int .i64 a0_0, .int .i64 a0_1] 23 (0, 0))) := ⟨h0_⟩
       have n1_ : Aside0 (w38.heap[gb153]? = some (.cells #[.int .i64 a1_0, .int .i64 a1_1] 23 (0, 0))) := ⟨h1_⟩
       have n2_ : Aside0 (w38.heap[gb154]? = some (.cells #[.int .i64 a2_0, .int .i64 a2_1] 23 (0, 0))) := ⟨h2_⟩
       have n3_ : Aside0 (w38.heap[gb155]? = some (.cells #[.int .i64 a3_0, .int .i64 a3_1] 23 (0, 0))) := ⟨h3_⟩
       have n4_ : Aside0 (w38.heap[gb166]? = some (.cells #[.int .i64 t164, .int .i64 t165] 24 (0, 0))) := ⟨h4_⟩
       have n5_ : Aside0 (w38.heap[gb177]? = some (.cells #[.int .i64 0, .int .i64 0] 24 (0, 0))) := ⟨h5_⟩
       have n6_ : Aside0 (w.heap.size ≤ gb177) := ⟨h6_⟩
       have n7_ : Aside0 (w.heap.size ≤ gb177) := ⟨h7_⟩
       have n8_ : Aside0 (gb152 ≠ gb177) := ⟨h8_⟩
       have n9_ : Aside0 (gb177 ≠ gb152) := ⟨h9_⟩
       have n10_ : Aside0 (gb153 ≠ gb177) := ⟨h10_⟩
       have n11_ : Aside0 (gb177 ≠ gb153) := ⟨h11_⟩
       have n12_ : Aside0 (gb154 ≠ gb177) := ⟨h12_⟩
       have n13_ : Aside0 (gb177 ≠ gb154) := ⟨h13_⟩
       have n14_ : Aside0 (gb155 ≠ gb177) := ⟨h14_⟩
       have n15_ : Aside0 (gb177 ≠ gb155) := ⟨h15_⟩
       have n16_ : Aside0 (gb166 ≠ gb177) := ⟨h16_⟩
       have n17_ : Aside0 (gb177 ≠ gb166) := ⟨h17_⟩
       have n18_ : Aside0 (Below w.heap.size w w38) := ⟨h18_⟩
       clear BK152
       clear BK153
       clear BK154
       clear BK155
       clear BK166
       clear HB
       clear h0_ h1_ h2_ h3_ h4_ h5_ h6_ h7_ h8_ h9_ h10_ h11_ h12_ h13_ h14_ h15_ h16_ h17_ h18_
       have BK152 := n0_
       have BK153 := n1_
       have BK154 := n2_
       have BK155 := n3_
       have BK166 := n4_
       have BK177 := n5_
       have GW177 := n6_
       have GE177 := n7_
       have NB152_177 := n8_
       have NB177_152 := n9_
       have NB153_177 := n10_
       have NB177_153 := n11_
       have NB154_177 := n12_
       have NB177_154 := n13_
       have NB155_177 := n14_
       have NB177_155 := n15_
       have NB166_177 := n16_
       have NB177_166 := n17_
       have HB := n18_
       clear n0_ n1_ n2_ n3_ n4_ n5_ n6_ n7_ n8_ n9_ n10_ n11_ n12_ n13_ n14_ n15_ n16_ n17_ n18_
       have hHeld : w38.cell? ⟨gb152, 0, none⟩ = some (.int .i64 a0_0) ∧ w38.cell? ⟨gb152, 1, none⟩ = some (.int .i64 a0_1) ∧ w38.cell? ⟨gb153, 0, none⟩ = some (.int .i64 a1_0) ∧ w38.cell? ⟨gb153, 1, none⟩ = some (.int .i64 a1_1) ∧ w38.cell? ⟨gb154, 0, none⟩ = some (.int .i64 a2_0) ∧ w38.cell? ⟨gb154, 1, none⟩ = some (.int .i64 a2_1) ∧ w38.cell? ⟨gb155, 0, none⟩ = some (.int .i64 a3_0) ∧ w38.cell? ⟨gb155, 1, none⟩ = some (.int .i64 a3_1) := hS_
       refine norm_ (a' := ?_) ?_ ?_
       rotate_left
       ·simp only [putAll, Act.put, List.setIfInBounds_toArray, List.set_cons_zero, List.set_cons_succ]
        rfl
       refine one_ (i := 7) (N := some 30) #[true, true, true, true, true, true, true, true, true, false, true, false] rfl rfl (one_of HT_.out (by kernel_rfl)) (by decide) (fun K hK => ?_)
       refine goes_ Try.func15 (by kernel_rfl) rfl #[.agg #[.int .i64 a3_0, .int .i64 a3_1]] (by rfl) rfl rfl (by (try simp only [List.map_toArray, List.map_cons, List.map_nil]); first | done | rfl | (simp only [List.length_drop, List.length_take]; rfl)) ?_
       with_reducible refine (laws_toPoint.calls a3_0 a3_1 t173 t174 _ A14.out).mono ?_
       rintro e w39 ⟨rfl, hb⟩
       refine ⟨_, rfl, ?_⟩
       have n0_ := Aside0.mk (blk_below (g := gb152) (o := .cells #[.int .i64 a0_0, .int .i64 a0_1] 23 (0, 0)) (by exact BK152.out) hb)
       have n1_ := Aside0.mk (blk_below (g := gb153) (o := .cells #[.int .i64 a1_0, .int .i64 a1_1] 23 (0, 0)) (by exact BK153.out) hb)
       have n2_ := Aside0.mk (blk_below (g := gb154) (o := .cells #[.int .i64 a2_0, .int .i64 a2_1] 23 (0, 0)) (by exact BK154.out) hb)
       have n3_ := Aside0.mk (blk_below (g := gb155) (o := .cells #[.int .i64 a3_0, .int .i64 a3_1] 23 (0, 0)) (by exact BK155.out) hb)
       have n4_ := Aside0.mk (blk_below (g := gb166) (o := .cells #[.int .i64 t164, .int .i64 t165] 24 (0, 0)) (by exact BK166.out) hb)
       have n5_ := Aside0.mk (blk_below (g := gb177) (o := .cells #[.int .i64 0, .int .i64 0] 24 (0, 0)) (by exact BK177.out) hb)
       have n6_ := Aside0.mk (below_step (by repeat (first | (with_reducible first | exact HB.out | apply below_alloc | apply pw_below_drewN | apply below_drew1 | refine below_set ?_ GE152.out | refine below_set ?_ GE153.out | refine below_set ?_ GE154.out | refine below_set ?_ GE155.out | refine below_set ?_ GE166.out | refine below_set ?_ GE177.out) | exact HB.out)) hb)
       clear BK152
       clear BK153
       clear BK154
       clear BK155
       clear BK166
       clear BK177
       clear HB
       have BK152 := n0_
       have BK153 := n1_
       have BK154 := n2_
       have BK155 := n3_
       have BK166 := n4_
       have BK177 := n5_
       have HB := n6_
       clear n0_ n1_ n2_ n3_ n4_ n5_ n6_
       (try clear hb)
       (try clear hb2)
       (try clear hk)
       (try clear hi)
       refine hK.out _ _ ⟨(blk_cell BK152.out 0).trans rfl, (blk_cell BK152.out 1).trans rfl, (blk_cell BK153.out 0).trans rfl, (blk_cell BK153.out 1).trans rfl, (blk_cell BK154.out 0).trans rfl, (blk_cell BK154.out 1).trans rfl, (blk_cell BK155.out 0).trans rfl, (blk_cell BK155.out 1).trans rfl⟩ (fun hHeld => ?_)
       clear hK K
       refine norm_ (a' := ?_) ?_ ?_
       rotate_left
       ·show Act.put _ (some 30) _ = _
        simp only [Act.put, List.setIfInBounds_toArray, List.set_cons_zero, List.set_cons_succ, i64_w, i32_w]
        rfl
       exact norm_ (by first | (simp only [putAll, Act.put, List.setIfInBounds_toArray, List.set_cons_zero, List.set_cons_succ]; done) | (simp only [putAll, Act.put, List.setIfInBounds_toArray, List.set_cons_zero, List.set_cons_succ]; rfl)) (hJ1_3_5_7_10 (gb177) _ ⟨hHeld, (by exact BK152.out), (by exact BK153.out), (by exact BK154.out), (by exact BK155.out), (by exact BK166.out), (by exact BK177.out), GW177.out, GE177.out, NB152_177.out, NB177_152.out, NB153_177.out, NB177_153.out, NB154_177.out, NB177_154.out, NB155_177.out, NB177_155.out, NB166_177.out, NB177_166.out, (by repeat (first | (with_reducible first | exact HB.out | apply below_alloc | apply pw_below_drewN | apply below_drew1 | refine below_set ?_ GE152.out | refine below_set ?_ GE153.out | refine below_set ?_ GE154.out | refine below_set ?_ GE155.out | refine below_set ?_ GE166.out | refine below_set ?_ GE177.out) | exact HB.out))⟩)
     ·skip
      rintro _ w38 ⟨hS_, h0_, h1_, h2_, h3_, h4_, h5_⟩
      have n0_ : Aside0 (w38.heap[gb152]? = some (.cells #[.int .i64 a0_0, .int .i64 a0_1] 23 (0, 0))) := ⟨h0_⟩
      have n1_ : Aside0 (w38.heap[gb153]? = some (.cells #[.int .i64 a1_0, .int .i64 a1_1] 23 (0, 0))) := ⟨h1_⟩
      have n2_ : Aside0 (w38.heap[gb154]? = some (.cells #[.int .i64 a2_0, .int .i64 a2_1] 23 (0, 0))) := ⟨h2_⟩
      have n3_ : Aside0 (w38.heap[gb155]? = some (.cells #[.int .i64 a3_0, .int .i64 a3_1] 23 (0, 0))) := ⟨h3_⟩
      have n4_ : Aside0 (w38.heap[gb166]? = some (.cells #[.int .i64 t164, .int .i64 t165] 24 (0, 0))) := ⟨h4_⟩
      have n5_ : Aside0 (Below w.heap.size w w38) := ⟨h5_⟩
      clear BK152
      clear BK153
      clear BK154
      clear BK155
      clear BK166
      clear HB
      clear h0_ h1_ h2_ h3_ h4_ h5_
      have BK152 := n0_
      have BK153 := n1_
      have BK154 := n2_
      have BK155 := n3_
      have BK166 := n4_
      have HB := n5_
      clear n0_ n1_ n2_ n3_ n4_ n5_
      have hHeld : w38.cell? ⟨gb152, 0, none⟩ = some (.int .i64 a0_0) ∧ w38.cell? ⟨gb152, 1, none⟩ = some (.int .i64 a0_1) ∧ w38.cell? ⟨gb153, 0, none⟩ = some (.int .i64 a1_0) ∧ w38.cell? ⟨gb153, 1, none⟩ = some (.int .i64 a1_1) ∧ w38.cell? ⟨gb154, 0, none⟩ = some (.int .i64 a2_0) ∧ w38.cell? ⟨gb154, 1, none⟩ = some (.int .i64 a2_1) ∧ w38.cell? ⟨gb155, 0, none⟩ = some (.int .i64 a3_0) ∧ w38.cell? ⟨gb155, 1, none⟩ = some (.int .i64 a3_1) := hS_
      refine norm_ (a' := ?_) ?_ ?_
      rotate_left
      ·simp only [putAll, Act.put, List.setIfInBounds_toArray, List.set_cons_zero, List.set_cons_succ]
       rfl
      refine two_ (i := 9) (j := 10) (Ni := some 32) (Nj := some 12) #[true, true, true, true, true, true, true, true, true, true, false, false] #[true, true, true, true, true, true, true, true, true, false, true, false] rfl rfl rfl rfl (two_of HT_.out (by kernel_rfl)) (by decide) (by decide) (fun K hK => ?_) (fun K hK => ?_)
      ·skip
       refine goes_ Try.func19 (by kernel_rfl) rfl #[.agg #[.int .i64 t167, .int .i64 t168], .agg #[.int .i64 t169, .int .i64 t170], .agg #[.int .i64 t171, .int .i64 t172], .agg #[.int .i64 t173, .int .i64 t174], .int .i64 a4] (by rfl) rfl rfl (by (try simp only [List.map_toArray, List.map_cons, List.map_nil]); first | done | rfl | (simp only [List.length_drop, List.length_take]; rfl)) ?_
       with_reducible refine (impl_CubicAt.calls k t167 t168 t169 t170 t171 t172 t173 t174 a4 t175 t176 _ A15.out).mono ?_
       rintro e w39 ⟨rfl, hb⟩
       refine ⟨_, rfl, ?_⟩
       have n0_ := Aside0.mk (blk_below (g := gb152) (o := .cells #[.int .i64 a0_0, .int .i64 a0_1] 23 (0, 0)) (by exact BK152.out) hb)
       have n1_ := Aside0.mk (blk_below (g := gb153) (o := .cells #[.int .i64 a1_0, .int .i64 a1_1] 23 (0, 0)) (by exact BK153.out) hb)
       have n2_ := Aside0.mk (blk_below (g := gb154) (o := .cells #[.int .i64 a2_0, .int .i64 a2_1] 23 (0, 0)) (by exact BK154.out) hb)
       have n3_ := Aside0.mk (blk_below (g := gb155) (o := .cells #[.int .i64 a3_0, .int .i64 a3_1] 23 (0, 0)) (by exact BK155.out) hb)
       have n4_ := Aside0.mk (blk_below (g := gb166) (o := .cells #[.int .i64 t164, .int .i64 t165] 24 (0, 0)) (by exact BK166.out) hb)
       have n5_ := Aside0.mk (below_step (by repeat (first | (with_reducible first | exact HB.out | apply below_alloc | apply pw_below_drewN | apply below_drew1 | refine below_set ?_ GE152.out | refine below_set ?_ GE153.out | refine below_set ?_ GE154.out | refine below_set ?_ GE155.out | refine below_set ?_ GE166.out) | exact HB.out)) hb)
       clear BK152
       clear BK153
       clear BK154
       clear BK155
       clear BK166
       clear HB
       have BK152 := n0_
       have BK153 := n1_
       have BK154 := n2_
       have BK155 := n3_
       have BK166 := n4_
       have HB := n5_
       clear n0_ n1_ n2_ n3_ n4_ n5_
       (try clear hb)
       (try clear hb2)
       (try clear hk)
       (try clear hi)
       refine hK.out _ _ ⟨(blk_cell BK152.out 0).trans rfl, (blk_cell BK152.out 1).trans rfl, (blk_cell BK153.out 0).trans rfl, (blk_cell BK153.out 1).trans rfl, (blk_cell BK154.out 0).trans rfl, (blk_cell BK154.out 1).trans rfl, (blk_cell BK155.out 0).trans rfl, (blk_cell BK155.out 1).trans rfl⟩ (fun hHeld => ?_)
       clear hK K
       refine norm_ (a' := ?_) ?_ ?_
       rotate_left
       ·show Act.put _ (some 32) _ = _
        simp only [Act.put, List.setIfInBounds_toArray, List.set_cons_zero, List.set_cons_succ, i64_w, i32_w]
        rfl
       exact norm_ (by first | (simp only [putAll, Act.put, List.setIfInBounds_toArray, List.set_cons_zero, List.set_cons_succ]; done) | (simp only [putAll, Act.put, List.setIfInBounds_toArray, List.set_cons_zero, List.set_cons_succ]; rfl)) (hJ1_3_5_7_9 () _ ⟨hHeld, (by exact BK152.out), (by exact BK153.out), (by exact BK154.out), (by exact BK155.out), (by exact BK166.out), (by repeat (first | (with_reducible first | exact HB.out | apply below_alloc | apply pw_below_drewN | apply below_drew1 | refine below_set ?_ GE152.out | refine below_set ?_ GE153.out | refine below_set ?_ GE154.out | refine below_set ?_ GE155.out | refine below_set ?_ GE166.out) | exact HB.out))⟩)
      ·skip
       refine box_step ?hg (N := 12) ?hd (cs := #[.int .i64 0, .int .i64 0]) (t := 24) ?hr ?_; (case hd => rfl); (case hg => rfl); (case hr => first | (go_simp; done) | (go_simp; rfl))
       intro gb177 hg w39 hbox hb
       have n0_ := Aside0.mk (blk_below (g := gb152) (o := .cells #[.int .i64 a0_0, .int .i64 a0_1] 23 (0, 0)) (by exact BK152.out) hb)
       have n1_ := Aside0.mk (blk_below (g := gb153) (o := .cells #[.int .i64 a1_0, .int .i64 a1_1] 23 (0, 0)) (by exact BK153.out) hb)
       have n2_ := Aside0.mk (blk_below (g := gb154) (o := .cells #[.int .i64 a2_0, .int .i64 a2_1] 23 (0, 0)) (by exact BK154.out) hb)
       have n3_ := Aside0.mk (blk_below (g := gb155) (o := .cells #[.int .i64 a3_0, .int .i64 a3_1] 23 (0, 0)) (by exact BK155.out) hb)
       have n4_ := Aside0.mk (blk_below (g := gb166) (o := .cells #[.int .i64 t164, .int .i64 t165] 24 (0, 0)) (by exact BK166.out) hb)
       have n5_ := Aside0.mk (below_step (by repeat (first | (with_reducible first | exact HB.out | apply below_alloc | apply pw_below_drewN | apply below_drew1 | refine below_set ?_ GE152.out | refine below_set ?_ GE153.out | refine below_set ?_ GE154.out | refine below_set ?_ GE155.out | refine below_set ?_ GE166.out) | exact HB.out)) hb)
       have n6_ := Aside0.mk (hbox)
       have n7_ := Aside0.mk ((by rw [hg]; exact (below_size (by repeat (first | (with_reducible first | exact HB.out | apply below_alloc | apply pw_below_drewN | apply below_drew1 | refine below_set ?_ GE152.out | refine below_set ?_ GE153.out | refine below_set ?_ GE154.out | refine below_set ?_ GE155.out | refine below_set ?_ GE166.out) | exact HB.out))) : w.heap.size ≤ gb177))
       have n8_ := Aside0.mk ((by rw [hg]; exact (below_size (by repeat (first | (with_reducible first | exact HB.out | apply below_alloc | apply pw_below_drewN | apply below_drew1 | refine below_set ?_ GE152.out | refine below_set ?_ GE153.out | refine below_set ?_ GE154.out | refine below_set ?_ GE155.out | refine below_set ?_ GE166.out) | exact HB.out))) : w.heap.size ≤ gb177))
       have n9_ := Aside0.mk ((by rw [hg]; exact Nat.ne_of_lt (blk_lt (g := gb152) (o := .cells #[.int .i64 a0_0, .int .i64 a0_1] 23 (0, 0)) (by exact BK152.out)) : gb152 ≠ gb177))
       have n10_ := Aside0.mk ((by rw [hg]; exact Nat.ne_of_gt (blk_lt (g := gb152) (o := .cells #[.int .i64 a0_0, .int .i64 a0_1] 23 (0, 0)) (by exact BK152.out)) : gb177 ≠ gb152))
       have n11_ := Aside0.mk ((by rw [hg]; exact Nat.ne_of_lt (blk_lt (g := gb153) (o := .cells #[.int .i64 a1_0, .int .i64 a1_1] 23 (0, 0)) (by exact BK153.out)) : gb153 ≠ gb177))
       have n12_ := Aside0.mk ((by rw [hg]; exact Nat.ne_of_gt (blk_lt (g := gb153) (o := .cells #[.int .i64 a1_0, .int .i64 a1_1] 23 (0, 0)) (by exact BK153.out)) : gb177 ≠ gb153))
       have n13_ := Aside0.mk ((by rw [hg]; exact Nat.ne_of_lt (blk_lt (g := gb154) (o := .cells #[.int .i64 a2_0, .int .i64 a2_1] 23 (0, 0)) (by exact BK154.out)) : gb154 ≠ gb177))
       have n14_ := Aside0.mk ((by rw [hg]; exact Nat.ne_of_gt (blk_lt (g := gb154) (o := .cells #[.int .i64 a2_0, .int .i64 a2_1] 23 (0, 0)) (by exact BK154.out)) : gb177 ≠ gb154))
       have n15_ := Aside0.mk ((by rw [hg]; exact Nat.ne_of_lt (blk_lt (g := gb155) (o := .cells #[.int .i64 a3_0, .int .i64 a3_1] 23 (0, 0)) (by exact BK155.out)) : gb155 ≠ gb177))
       have n16_ := Aside0.mk ((by rw [hg]; exact Nat.ne_of_gt (blk_lt (g := gb155) (o := .cells #[.int .i64 a3_0, .int .i64 a3_1] 23 (0, 0)) (by exact BK155.out)) : gb177 ≠ gb155))
       have n17_ := Aside0.mk ((by rw [hg]; exact Nat.ne_of_lt (blk_lt (g := gb166) (o := .cells #[.int .i64 t164, .int .i64 t165] 24 (0, 0)) (by exact BK166.out)) : gb166 ≠ gb177))
       have n18_ := Aside0.mk ((by rw [hg]; exact Nat.ne_of_gt (blk_lt (g := gb166) (o := .cells #[.int .i64 t164, .int .i64 t165] 24 (0, 0)) (by exact BK166.out)) : gb177 ≠ gb166))
       clear BK152
       clear BK153
       clear BK154
       clear BK155
       clear BK166
       clear HB
       have BK152 := n0_
       have BK153 := n1_
       have BK154 := n2_
       have BK155 := n3_
       have BK166 := n4_
       have HB := n5_
       have BK177 := n6_
       have GW177 := n7_
       have GE177 := n8_
       have NB152_177 := n9_
       have NB177_152 := n10_
       have NB153_177 := n11_
       have NB177_153 := n12_
       have NB154_177 := n13_
       have NB177_154 := n14_
       have NB155_177 := n15_
       have NB177_155 := n16_
       have NB166_177 := n17_
       have NB177_166 := n18_
       clear n0_ n1_ n2_ n3_ n4_ n5_ n6_ n7_ n8_ n9_ n10_ n11_ n12_ n13_ n14_ n15_ n16_ n17_ n18_
       clear hb hbox hg
       refine hK.out _ _ ⟨(blk_cell BK152.out 0).trans rfl, (blk_cell BK152.out 1).trans rfl, (blk_cell BK153.out 0).trans rfl, (blk_cell BK153.out 1).trans rfl, (blk_cell BK154.out 0).trans rfl, (blk_cell BK154.out 1).trans rfl, (blk_cell BK155.out 0).trans rfl, (blk_cell BK155.out 1).trans rfl⟩ (fun hHeld => ?_)
       clear hK K
       refine norm_ (a' := ?_) ?_ ?_
       rotate_left
       ·show Act.put _ (some 12) _ = _
        simp only [Act.put, List.setIfInBounds_toArray, List.set_cons_zero, List.set_cons_succ, i64_w, i32_w]
        rfl
       exact norm_ (by first | (simp only [putAll, Act.put, List.setIfInBounds_toArray, List.set_cons_zero, List.set_cons_succ]; done) | (simp only [putAll, Act.put, List.setIfInBounds_toArray, List.set_cons_zero, List.set_cons_succ]; rfl)) (hJ1_3_5_7_10 (gb177) _ ⟨hHeld, (by exact BK152.out), (by exact BK153.out), (by exact BK154.out), (by exact BK155.out), (by exact BK166.out), (by exact BK177.out), GW177.out, GE177.out, NB152_177.out, NB177_152.out, NB153_177.out, NB177_153.out, NB154_177.out, NB177_154.out, NB155_177.out, NB177_155.out, NB166_177.out, NB177_166.out, (by repeat (first | (with_reducible first | exact HB.out | apply below_alloc | apply pw_below_drewN | apply below_drew1 | refine below_set ?_ GE152.out | refine below_set ?_ GE153.out | refine below_set ?_ GE154.out | refine below_set ?_ GE155.out | refine below_set ?_ GE166.out | refine below_set ?_ GE177.out) | exact HB.out))⟩)
    ·skip
     rintro gb177 w39 ⟨hS_, h0_, h1_, h2_, h3_, h4_, h5_, h6_, h7_, h8_, h9_, h10_, h11_, h12_, h13_, h14_, h15_, h16_, h17_, h18_⟩
     have n0_ : Aside0 (w39.heap[gb152]? = some (.cells #[.int .i64 a0_0, .int .i64 a0_1] 23 (0, 0))) := ⟨h0_⟩
     have n1_ : Aside0 (w39.heap[gb153]? = some (.cells #[.int .i64 a1_0, .int .i64 a1_1] 23 (0, 0))) := ⟨h1_⟩
     have n2_ : Aside0 (w39.heap[gb154]? = some (.cells #[.int .i64 a2_0, .int .i64 a2_1] 23 (0, 0))) := ⟨h2_⟩
     have n3_ : Aside0 (w39.heap[gb155]? = some (.cells #[.int .i64 a3_0, .int .i64 a3_1] 23 (0, 0))) := ⟨h3_⟩
     have n4_ : Aside0 (w39.heap[gb166]? = some (.cells #[.int .i64 t164, .int .i64 t165] 24 (0, 0))) := ⟨h4_⟩
     have n5_ : Aside0 (w39.heap[gb177]? = some (.cells #[.int .i64 0, .int .i64 0] 24 (0, 0))) := ⟨h5_⟩
     have n6_ : Aside0 (w.heap.size ≤ gb177) := ⟨h6_⟩
     have n7_ : Aside0 (w.heap.size ≤ gb177) := ⟨h7_⟩
     have n8_ : Aside0 (gb152 ≠ gb177) := ⟨h8_⟩
     have n9_ : Aside0 (gb177 ≠ gb152) := ⟨h9_⟩
     have n10_ : Aside0 (gb153 ≠ gb177) := ⟨h10_⟩
     have n11_ : Aside0 (gb177 ≠ gb153) := ⟨h11_⟩
     have n12_ : Aside0 (gb154 ≠ gb177) := ⟨h12_⟩
     have n13_ : Aside0 (gb177 ≠ gb154) := ⟨h13_⟩
     have n14_ : Aside0 (gb155 ≠ gb177) := ⟨h14_⟩
     have n15_ : Aside0 (gb177 ≠ gb155) := ⟨h15_⟩
     have n16_ : Aside0 (gb166 ≠ gb177) := ⟨h16_⟩
     have n17_ : Aside0 (gb177 ≠ gb166) := ⟨h17_⟩
     have n18_ : Aside0 (Below w.heap.size w w39) := ⟨h18_⟩
     clear BK152
     clear BK153
     clear BK154
     clear BK155
     clear BK166
     clear HB
     clear h0_ h1_ h2_ h3_ h4_ h5_ h6_ h7_ h8_ h9_ h10_ h11_ h12_ h13_ h14_ h15_ h16_ h17_ h18_
     have BK152 := n0_
     have BK153 := n1_
     have BK154 := n2_
     have BK155 := n3_
     have BK166 := n4_
     have BK177 := n5_
     have GW177 := n6_
     have GE177 := n7_
     have NB152_177 := n8_
     have NB177_152 := n9_
     have NB153_177 := n10_
     have NB177_153 := n11_
     have NB154_177 := n12_
     have NB177_154 := n13_
     have NB155_177 := n14_
     have NB177_155 := n15_
     have NB166_177 := n16_
     have NB177_166 := n17_
     have HB := n18_
     clear n0_ n1_ n2_ n3_ n4_ n5_ n6_ n7_ n8_ n9_ n10_ n11_ n12_ n13_ n14_ n15_ n16_ n17_ n18_
     have hHeld : w39.cell? ⟨gb152, 0, none⟩ = some (.int .i64 a0_0) ∧ w39.cell? ⟨gb152, 1, none⟩ = some (.int .i64 a0_1) ∧ w39.cell? ⟨gb153, 0, none⟩ = some (.int .i64 a1_0) ∧ w39.cell? ⟨gb153, 1, none⟩ = some (.int .i64 a1_1) ∧ w39.cell? ⟨gb154, 0, none⟩ = some (.int .i64 a2_0) ∧ w39.cell? ⟨gb154, 1, none⟩ = some (.int .i64 a2_1) ∧ w39.cell? ⟨gb155, 0, none⟩ = some (.int .i64 a3_0) ∧ w39.cell? ⟨gb155, 1, none⟩ = some (.int .i64 a3_1) := hS_
     refine norm_ (a' := ?_) ?_ ?_
     rotate_left
     ·simp only [putAll, Act.put, List.setIfInBounds_toArray, List.set_cons_zero, List.set_cons_succ]
      rfl
     refine one_ (i := 9) (N := some 32) #[true, true, true, true, true, true, true, true, true, true, true, false] rfl rfl (one_of HT_.out (by kernel_rfl)) (by decide) (fun K hK => ?_)
     refine goes_ Try.func19 (by kernel_rfl) rfl #[.agg #[.int .i64 t167, .int .i64 t168], .agg #[.int .i64 t169, .int .i64 t170], .agg #[.int .i64 t171, .int .i64 t172], .agg #[.int .i64 t173, .int .i64 t174], .int .i64 a4] (by rfl) rfl rfl (by (try simp only [List.map_toArray, List.map_cons, List.map_nil]); first | done | rfl | (simp only [List.length_drop, List.length_take]; rfl)) ?_
     with_reducible refine (impl_CubicAt.calls k t167 t168 t169 t170 t171 t172 t173 t174 a4 t175 t176 _ A15.out).mono ?_
     rintro e w40 ⟨rfl, hb⟩
     refine ⟨_, rfl, ?_⟩
     have n0_ := Aside0.mk (blk_below (g := gb152) (o := .cells #[.int .i64 a0_0, .int .i64 a0_1] 23 (0, 0)) (by exact BK152.out) hb)
     have n1_ := Aside0.mk (blk_below (g := gb153) (o := .cells #[.int .i64 a1_0, .int .i64 a1_1] 23 (0, 0)) (by exact BK153.out) hb)
     have n2_ := Aside0.mk (blk_below (g := gb154) (o := .cells #[.int .i64 a2_0, .int .i64 a2_1] 23 (0, 0)) (by exact BK154.out) hb)
     have n3_ := Aside0.mk (blk_below (g := gb155) (o := .cells #[.int .i64 a3_0, .int .i64 a3_1] 23 (0, 0)) (by exact BK155.out) hb)
     have n4_ := Aside0.mk (blk_below (g := gb166) (o := .cells #[.int .i64 t164, .int .i64 t165] 24 (0, 0)) (by exact BK166.out) hb)
     have n5_ := Aside0.mk (blk_below (g := gb177) (o := .cells #[.int .i64 0, .int .i64 0] 24 (0, 0)) (by exact BK177.out) hb)
     have n6_ := Aside0.mk (below_step (by repeat (first | (with_reducible first | exact HB.out | apply below_alloc | apply pw_below_drewN | apply below_drew1 | refine below_set ?_ GE152.out | refine below_set ?_ GE153.out | refine below_set ?_ GE154.out | refine below_set ?_ GE155.out | refine below_set ?_ GE166.out | refine below_set ?_ GE177.out) | exact HB.out)) hb)
     clear BK152
     clear BK153
     clear BK154
     clear BK155
     clear BK166
     clear BK177
     clear HB
     have BK152 := n0_
     have BK153 := n1_
     have BK154 := n2_
     have BK155 := n3_
     have BK166 := n4_
     have BK177 := n5_
     have HB := n6_
     clear n0_ n1_ n2_ n3_ n4_ n5_ n6_
     (try clear hb)
     (try clear hb2)
     (try clear hk)
     (try clear hi)
     refine hK.out _ _ ⟨(blk_cell BK152.out 0).trans rfl, (blk_cell BK152.out 1).trans rfl, (blk_cell BK153.out 0).trans rfl, (blk_cell BK153.out 1).trans rfl, (blk_cell BK154.out 0).trans rfl, (blk_cell BK154.out 1).trans rfl, (blk_cell BK155.out 0).trans rfl, (blk_cell BK155.out 1).trans rfl⟩ (fun hHeld => ?_)
     clear hK K
     refine norm_ (a' := ?_) ?_ ?_
     rotate_left
     ·show Act.put _ (some 32) _ = _
      simp only [Act.put, List.setIfInBounds_toArray, List.set_cons_zero, List.set_cons_succ, i64_w, i32_w]
      rfl
     exact norm_ (by first | (simp only [putAll, Act.put, List.setIfInBounds_toArray, List.set_cons_zero, List.set_cons_succ]; done) | (simp only [putAll, Act.put, List.setIfInBounds_toArray, List.set_cons_zero, List.set_cons_succ]; rfl)) (hJ1_3_5_7_9_10 (gb177) _ ⟨hHeld, (by exact BK152.out), (by exact BK153.out), (by exact BK154.out), (by exact BK155.out), (by exact BK166.out), (by exact BK177.out), GW177.out, GE177.out, NB152_177.out, NB177_152.out, NB153_177.out, NB177_153.out, NB154_177.out, NB177_154.out, NB155_177.out, NB177_155.out, NB166_177.out, NB177_166.out, (by repeat (first | (with_reducible first | exact HB.out | apply below_alloc | apply pw_below_drewN | apply below_drew1 | refine below_set ?_ GE152.out | refine below_set ?_ GE153.out | refine below_set ?_ GE154.out | refine below_set ?_ GE155.out | refine below_set ?_ GE166.out | refine below_set ?_ GE177.out) | exact HB.out))⟩)
   ·skip
    rintro _ w39 ⟨hS_, h0_, h1_, h2_, h3_, h4_, h5_⟩
    have n0_ : Aside0 (w39.heap[gb152]? = some (.cells #[.int .i64 a0_0, .int .i64 a0_1] 23 (0, 0))) := ⟨h0_⟩
    have n1_ : Aside0 (w39.heap[gb153]? = some (.cells #[.int .i64 a1_0, .int .i64 a1_1] 23 (0, 0))) := ⟨h1_⟩
    have n2_ : Aside0 (w39.heap[gb154]? = some (.cells #[.int .i64 a2_0, .int .i64 a2_1] 23 (0, 0))) := ⟨h2_⟩
    have n3_ : Aside0 (w39.heap[gb155]? = some (.cells #[.int .i64 a3_0, .int .i64 a3_1] 23 (0, 0))) := ⟨h3_⟩
    have n4_ : Aside0 (w39.heap[gb166]? = some (.cells #[.int .i64 t164, .int .i64 t165] 24 (0, 0))) := ⟨h4_⟩
    have n5_ : Aside0 (Below w.heap.size w w39) := ⟨h5_⟩
    clear BK152
    clear BK153
    clear BK154
    clear BK155
    clear BK166
    clear HB
    clear h0_ h1_ h2_ h3_ h4_ h5_
    have BK152 := n0_
    have BK153 := n1_
    have BK154 := n2_
    have BK155 := n3_
    have BK166 := n4_
    have HB := n5_
    clear n0_ n1_ n2_ n3_ n4_ n5_
    have hHeld : w39.cell? ⟨gb152, 0, none⟩ = some (.int .i64 a0_0) ∧ w39.cell? ⟨gb152, 1, none⟩ = some (.int .i64 a0_1) ∧ w39.cell? ⟨gb153, 0, none⟩ = some (.int .i64 a1_0) ∧ w39.cell? ⟨gb153, 1, none⟩ = some (.int .i64 a1_1) ∧ w39.cell? ⟨gb154, 0, none⟩ = some (.int .i64 a2_0) ∧ w39.cell? ⟨gb154, 1, none⟩ = some (.int .i64 a2_1) ∧ w39.cell? ⟨gb155, 0, none⟩ = some (.int .i64 a3_0) ∧ w39.cell? ⟨gb155, 1, none⟩ = some (.int .i64 a3_1) := hS_
    refine norm_ (a' := ?_) ?_ ?_
    rotate_left
    ·simp only [putAll, Act.put, List.setIfInBounds_toArray, List.set_cons_zero, List.set_cons_succ]
     rfl
    refine one_ (i := 10) (N := some 12) #[true, true, true, true, true, true, true, true, true, true, true, false] rfl rfl (one_of HT_.out (by kernel_rfl)) (by decide) (fun K hK => ?_)
    refine box_step ?hg (N := 12) ?hd (cs := #[.int .i64 0, .int .i64 0]) (t := 24) ?hr ?_; (case hd => rfl); (case hg => rfl); (case hr => first | (go_simp; done) | (go_simp; rfl))
    intro gb177 hg w40 hbox hb
    have n0_ := Aside0.mk (blk_below (g := gb152) (o := .cells #[.int .i64 a0_0, .int .i64 a0_1] 23 (0, 0)) (by exact BK152.out) hb)
    have n1_ := Aside0.mk (blk_below (g := gb153) (o := .cells #[.int .i64 a1_0, .int .i64 a1_1] 23 (0, 0)) (by exact BK153.out) hb)
    have n2_ := Aside0.mk (blk_below (g := gb154) (o := .cells #[.int .i64 a2_0, .int .i64 a2_1] 23 (0, 0)) (by exact BK154.out) hb)
    have n3_ := Aside0.mk (blk_below (g := gb155) (o := .cells #[.int .i64 a3_0, .int .i64 a3_1] 23 (0, 0)) (by exact BK155.out) hb)
    have n4_ := Aside0.mk (blk_below (g := gb166) (o := .cells #[.int .i64 t164, .int .i64 t165] 24 (0, 0)) (by exact BK166.out) hb)
    have n5_ := Aside0.mk (below_step (by repeat (first | (with_reducible first | exact HB.out | apply below_alloc | apply pw_below_drewN | apply below_drew1 | refine below_set ?_ GE152.out | refine below_set ?_ GE153.out | refine below_set ?_ GE154.out | refine below_set ?_ GE155.out | refine below_set ?_ GE166.out) | exact HB.out)) hb)
    have n6_ := Aside0.mk (hbox)
    have n7_ := Aside0.mk ((by rw [hg]; exact (below_size (by repeat (first | (with_reducible first | exact HB.out | apply below_alloc | apply pw_below_drewN | apply below_drew1 | refine below_set ?_ GE152.out | refine below_set ?_ GE153.out | refine below_set ?_ GE154.out | refine below_set ?_ GE155.out | refine below_set ?_ GE166.out) | exact HB.out))) : w.heap.size ≤ gb177))
    have n8_ := Aside0.mk ((by rw [hg]; exact (below_size (by repeat (first | (with_reducible first | exact HB.out | apply below_alloc | apply pw_below_drewN | apply below_drew1 | refine below_set ?_ GE152.out | refine below_set ?_ GE153.out | refine below_set ?_ GE154.out | refine below_set ?_ GE155.out | refine below_set ?_ GE166.out) | exact HB.out))) : w.heap.size ≤ gb177))
    have n9_ := Aside0.mk ((by rw [hg]; exact Nat.ne_of_lt (blk_lt (g := gb152) (o := .cells #[.int .i64 a0_0, .int .i64 a0_1] 23 (0, 0)) (by exact BK152.out)) : gb152 ≠ gb177))
    have n10_ := Aside0.mk ((by rw [hg]; exact Nat.ne_of_gt (blk_lt (g := gb152) (o := .cells #[.int .i64 a0_0, .int .i64 a0_1] 23 (0, 0)) (by exact BK152.out)) : gb177 ≠ gb152))
    have n11_ := Aside0.mk ((by rw [hg]; exact Nat.ne_of_lt (blk_lt (g := gb153) (o := .cells #[.int .i64 a1_0, .int .i64 a1_1] 23 (0, 0)) (by exact BK153.out)) : gb153 ≠ gb177))
    have n12_ := Aside0.mk ((by rw [hg]; exact Nat.ne_of_gt (blk_lt (g := gb153) (o := .cells #[.int .i64 a1_0, .int .i64 a1_1] 23 (0, 0)) (by exact BK153.out)) : gb177 ≠ gb153))
    have n13_ := Aside0.mk ((by rw [hg]; exact Nat.ne_of_lt (blk_lt (g := gb154) (o := .cells #[.int .i64 a2_0, .int .i64 a2_1] 23 (0, 0)) (by exact BK154.out)) : gb154 ≠ gb177))
    have n14_ := Aside0.mk ((by rw [hg]; exact Nat.ne_of_gt (blk_lt (g := gb154) (o := .cells #[.int .i64 a2_0, .int .i64 a2_1] 23 (0, 0)) (by exact BK154.out)) : gb177 ≠ gb154))
    have n15_ := Aside0.mk ((by rw [hg]; exact Nat.ne_of_lt (blk_lt (g := gb155) (o := .cells #[.int .i64 a3_0, .int .i64 a3_1] 23 (0, 0)) (by exact BK155.out)) : gb155 ≠ gb177))
    have n16_ := Aside0.mk ((by rw [hg]; exact Nat.ne_of_gt (blk_lt (g := gb155) (o := .cells #[.int .i64 a3_0, .int .i64 a3_1] 23 (0, 0)) (by exact BK155.out)) : gb177 ≠ gb155))
    have n17_ := Aside0.mk ((by rw [hg]; exact Nat.ne_of_lt (blk_lt (g := gb166) (o := .cells #[.int .i64 t164, .int .i64 t165] 24 (0, 0)) (by exact BK166.out)) : gb166 ≠ gb177))
    have n18_ := Aside0.mk ((by rw [hg]; exact Nat.ne_of_gt (blk_lt (g := gb166) (o := .cells #[.int .i64 t164, .int .i64 t165] 24 (0, 0)) (by exact BK166.out)) : gb177 ≠ gb166))
    clear BK152
    clear BK153
    clear BK154
    clear BK155
    clear BK166
    clear HB
    have BK152 := n0_
    have BK153 := n1_
    have BK154 := n2_
    have BK155 := n3_
    have BK166 := n4_
    have HB := n5_
    have BK177 := n6_
    have GW177 := n7_
    have GE177 := n8_
    have NB152_177 := n9_
    have NB177_152 := n10_
    have NB153_177 := n11_
    have NB177_153 := n12_
    have NB154_177 := n13_
    have NB177_154 := n14_
    have NB155_177 := n15_
    have NB177_155 := n16_
    have NB166_177 := n17_
    have NB177_166 := n18_
    clear n0_ n1_ n2_ n3_ n4_ n5_ n6_ n7_ n8_ n9_ n10_ n11_ n12_ n13_ n14_ n15_ n16_ n17_ n18_
    clear hb hbox hg
    refine hK.out _ _ ⟨(blk_cell BK152.out 0).trans rfl, (blk_cell BK152.out 1).trans rfl, (blk_cell BK153.out 0).trans rfl, (blk_cell BK153.out 1).trans rfl, (blk_cell BK154.out 0).trans rfl, (blk_cell BK154.out 1).trans rfl, (blk_cell BK155.out 0).trans rfl, (blk_cell BK155.out 1).trans rfl⟩ (fun hHeld => ?_)
    clear hK K
    refine norm_ (a' := ?_) ?_ ?_
    rotate_left
    ·show Act.put _ (some 12) _ = _
     simp only [Act.put, List.setIfInBounds_toArray, List.set_cons_zero, List.set_cons_succ, i64_w, i32_w]
     rfl
    exact norm_ (by first | (simp only [putAll, Act.put, List.setIfInBounds_toArray, List.set_cons_zero, List.set_cons_succ]; done) | (simp only [putAll, Act.put, List.setIfInBounds_toArray, List.set_cons_zero, List.set_cons_succ]; rfl)) (hJ1_3_5_7_9_10 (gb177) _ ⟨hHeld, (by exact BK152.out), (by exact BK153.out), (by exact BK154.out), (by exact BK155.out), (by exact BK166.out), (by exact BK177.out), GW177.out, GE177.out, NB152_177.out, NB177_152.out, NB153_177.out, NB177_153.out, NB154_177.out, NB177_154.out, NB155_177.out, NB177_155.out, NB166_177.out, NB177_166.out, (by repeat (first | (with_reducible first | exact HB.out | apply below_alloc | apply pw_below_drewN | apply below_drew1 | refine below_set ?_ GE152.out | refine below_set ?_ GE153.out | refine below_set ?_ GE154.out | refine below_set ?_ GE155.out | refine below_set ?_ GE166.out | refine below_set ?_ GE177.out) | exact HB.out))⟩)
  rintro gb177 w40 ⟨hS_, h0_, h1_, h2_, h3_, h4_, h5_, h6_, h7_, h8_, h9_, h10_, h11_, h12_, h13_, h14_, h15_, h16_, h17_, h18_⟩
  have n0_ : Aside0 (w40.heap[gb152]? = some (.cells #[.int .i64 a0_0, .int .i64 a0_1] 23 (0, 0))) := ⟨h0_⟩
  have n1_ : Aside0 (w40.heap[gb153]? = some (.cells #[.int .i64 a1_0, .int .i64 a1_1] 23 (0, 0))) := ⟨h1_⟩
  have n2_ : Aside0 (w40.heap[gb154]? = some (.cells #[.int .i64 a2_0, .int .i64 a2_1] 23 (0, 0))) := ⟨h2_⟩
  have n3_ : Aside0 (w40.heap[gb155]? = some (.cells #[.int .i64 a3_0, .int .i64 a3_1] 23 (0, 0))) := ⟨h3_⟩
  have n4_ : Aside0 (w40.heap[gb166]? = some (.cells #[.int .i64 t164, .int .i64 t165] 24 (0, 0))) := ⟨h4_⟩
  have n5_ : Aside0 (w40.heap[gb177]? = some (.cells #[.int .i64 0, .int .i64 0] 24 (0, 0))) := ⟨h5_⟩
  have n6_ : Aside0 (w.heap.size ≤ gb177) := ⟨h6_⟩
  have n7_ : Aside0 (w.heap.size ≤ gb177) := ⟨h7_⟩
  have n8_ : Aside0 (gb152 ≠ gb177) := ⟨h8_⟩
  have n9_ : Aside0 (gb177 ≠ gb152) := ⟨h9_⟩
  have n10_ : Aside0 (gb153 ≠ gb177) := ⟨h10_⟩
  have n11_ : Aside0 (gb177 ≠ gb153) := ⟨h11_⟩
  have n12_ : Aside0 (gb154 ≠ gb177) := ⟨h12_⟩
  have n13_ : Aside0 (gb177 ≠ gb154) := ⟨h13_⟩
  have n14_ : Aside0 (gb155 ≠ gb177) := ⟨h14_⟩
  have n15_ : Aside0 (gb177 ≠ gb155) := ⟨h15_⟩
  have n16_ : Aside0 (gb166 ≠ gb177) := ⟨h16_⟩
  have n17_ : Aside0 (gb177 ≠ gb166) := ⟨h17_⟩
  have n18_ : Aside0 (Below w.heap.size w w40) := ⟨h18_⟩
  clear BK152
  clear BK153
  clear BK154
  clear BK155
  clear BK166
  clear HB
  clear h0_ h1_ h2_ h3_ h4_ h5_ h6_ h7_ h8_ h9_ h10_ h11_ h12_ h13_ h14_ h15_ h16_ h17_ h18_
  have BK152 := n0_
  have BK153 := n1_
  have BK154 := n2_
  have BK155 := n3_
  have BK166 := n4_
  have BK177 := n5_
  have GW177 := n6_
  have GE177 := n7_
  have NB152_177 := n8_
  have NB177_152 := n9_
  have NB153_177 := n10_
  have NB177_153 := n11_
  have NB154_177 := n12_
  have NB177_154 := n13_
  have NB155_177 := n14_
  have NB177_155 := n15_
  have NB166_177 := n16_
  have NB177_166 := n17_
  have HB := n18_
  clear n0_ n1_ n2_ n3_ n4_ n5_ n6_ n7_ n8_ n9_ n10_ n11_ n12_ n13_ n14_ n15_ n16_ n17_ n18_
  have hHeld : w40.cell? ⟨gb152, 0, none⟩ = some (.int .i64 a0_0) ∧ w40.cell? ⟨gb152, 1, none⟩ = some (.int .i64 a0_1) ∧ w40.cell? ⟨gb153, 0, none⟩ = some (.int .i64 a1_0) ∧ w40.cell? ⟨gb153, 1, none⟩ = some (.int .i64 a1_1) ∧ w40.cell? ⟨gb154, 0, none⟩ = some (.int .i64 a2_0) ∧ w40.cell? ⟨gb154, 1, none⟩ = some (.int .i64 a2_1) ∧ w40.cell? ⟨gb155, 0, none⟩ = some (.int .i64 a3_0) ∧ w40.cell? ⟨gb155, 1, none⟩ = some (.int .i64 a3_1) := hS_
  refine norm_ (a' := ?_) ?_ ?_
  rotate_left
  ·simp only [putAll, Act.put, List.setIfInBounds_toArray, List.set_cons_zero, List.set_cons_succ]
   rfl
  refine one_ (i := 11) (N := none) #[true, true, true, true, true, true, true, true, true, true, true, true] rfl rfl (one_of HT_.out (by kernel_rfl)) (by decide) (fun K hK => ?_)
  have hs41 : w40.cell? ⟨gb177, 0, none⟩ = some (.int .i64 0) := (blk_cell BK177.out 0).trans rfl
  have hfs41 := blk_frozen BK177.out 0
  have hns41_0 := NB152_177.out
  have hns41_1 := NB153_177.out
  have hns41_2 := NB154_177.out
  have hns41_3 := NB155_177.out
  have hns41_4 := NB166_177.out
  have hms41_0 := NB177_152.out
  have hms41_1 := NB177_153.out
  have hms41_2 := NB177_154.out
  have hms41_3 := NB177_155.out
  have hms41_4 := NB177_166.out
  have hs42 : w40.cell? ⟨gb177, 1, none⟩ = some (.int .i64 0) := (blk_cell BK177.out 1).trans rfl
  have hfs42 := blk_frozen BK177.out 1
  have hns42_0 := NB152_177.out
  have hns42_1 := NB153_177.out
  have hns42_2 := NB154_177.out
  have hns42_3 := NB155_177.out
  have hns42_4 := NB166_177.out
  have hms42_0 := NB177_152.out
  have hms42_1 := NB177_153.out
  have hms42_2 := NB177_154.out
  have hms42_3 := NB177_155.out
  have hms42_4 := NB177_166.out
  refine skip_ (w1 := ?_) (by rfl) rfl ?_ ?_
  rotate_left
  ·go_simp
   rfl
  refine hK.out _ _ ⟨((cell_far (p := ⟨gb177, _, none⟩) NB152_177.out _).trans (((cell_far (p := ⟨gb177, _, none⟩) NB152_177.out _).trans (hHeld.1)))), ((cell_far (p := ⟨gb177, _, none⟩) NB152_177.out _).trans (((cell_far (p := ⟨gb177, _, none⟩) NB152_177.out _).trans (hHeld.2.1)))), ((cell_far (p := ⟨gb177, _, none⟩) NB153_177.out _).trans (((cell_far (p := ⟨gb177, _, none⟩) NB153_177.out _).trans (hHeld.2.2.1)))), ((cell_far (p := ⟨gb177, _, none⟩) NB153_177.out _).trans (((cell_far (p := ⟨gb177, _, none⟩) NB153_177.out _).trans (hHeld.2.2.2.1)))), ((cell_far (p := ⟨gb177, _, none⟩) NB154_177.out _).trans (((cell_far (p := ⟨gb177, _, none⟩) NB154_177.out _).trans (hHeld.2.2.2.2.1)))), ((cell_far (p := ⟨gb177, _, none⟩) NB154_177.out _).trans (((cell_far (p := ⟨gb177, _, none⟩) NB154_177.out _).trans (hHeld.2.2.2.2.2.1)))), ((cell_far (p := ⟨gb177, _, none⟩) NB155_177.out _).trans (((cell_far (p := ⟨gb177, _, none⟩) NB155_177.out _).trans (hHeld.2.2.2.2.2.2.1)))), ((cell_far (p := ⟨gb177, _, none⟩) NB155_177.out _).trans (((cell_far (p := ⟨gb177, _, none⟩) NB155_177.out _).trans (hHeld.2.2.2.2.2.2.2))))⟩ (fun hHeld => ?_)
  clear hK K
  refine done_ (done_of HT_.out (by kernel_rfl)) ?_
  have hnb43 := NB177_152.out
  have hnc43 := NB152_177.out
  have hnb44 := NB177_153.out
  have hnc44 := NB153_177.out
  have hnb45 := NB177_154.out
  have hnc45 := NB154_177.out
  have hnb46 := NB177_155.out
  have hnc46 := NB155_177.out
  have hnb47 := NB177_166.out
  have hnc47 := NB166_177.out
  have hcz48_0 : w40.cell? ⟨gb177, 0, none⟩ = some (.int .i64 0) := (blk_cell BK177.out 0).trans rfl
  have hcz48_1 : w40.cell? ⟨gb177, 1, none⟩ = some (.int .i64 0) := (blk_cell BK177.out 1).trans rfl
  have hfz48_0 := blk_frozen BK177.out 0
  have hfz48_1 := blk_frozen BK177.out 1
  have hnb49 := NB166_152.out
  have hnc49 := NB152_166.out
  have hnb50 := NB166_153.out
  have hnc50 := NB153_166.out
  have hnb51 := NB166_154.out
  have hnc51 := NB154_166.out
  have hnb52 := NB166_155.out
  have hnc52 := NB155_166.out
  have hcz53_0 : w40.cell? ⟨gb166, 0, none⟩ = some (.int .i64 t164) := (blk_cell BK166.out 0).trans rfl
  have hcz53_1 : w40.cell? ⟨gb166, 1, none⟩ = some (.int .i64 t165) := (blk_cell BK166.out 1).trans rfl
  have hfz53_0 := blk_frozen BK166.out 0
  have hfz53_1 := blk_frozen BK166.out 1
  try go_wp2_with (first | ((with_reducible refine gate_callee (f := 17) rfl ?_); refine goesL_ (some 35) rfl rfl Try.func17 (by kernel_rfl) rfl #[.agg #[.int .i64 t175, .int .i64 t176], .agg #[.int .i64 t164, .int .i64 t165]] rfl (by (try simp only [List.map_toArray, List.map_cons, List.map_nil]); first | done | rfl | (simp only [List.length_drop, List.length_take]; rfl)) ?_; (with_reducible refine (laws_eqPoint.calls t175 t176 t164 t165 true _ A16.out).mono ?_); rintro e w54 ⟨rfl, hb⟩; refine ⟨_, rfl, ?_⟩; have n0_ := Aside0.mk (blk_below (g := gb152) (o := .cells #[.int .i64 a0_0, .int .i64 a0_1] 23 (0, 0)) (by (with_reducible repeat (first | refine blk_drewN ?_ _ | refine blk_drew ?_ | refine blk_alloc ?_ _)); refine blk_far ?_ NB152_177.out _; (with_reducible repeat (first | refine blk_drewN ?_ _ | refine blk_drew ?_ | refine blk_alloc ?_ _)); refine blk_far ?_ NB152_177.out _; (with_reducible repeat (first | refine blk_drewN ?_ _ | refine blk_drew ?_ | refine blk_alloc ?_ _)); exact BK152.out) hb); have n1_ := Aside0.mk (blk_below (g := gb153) (o := .cells #[.int .i64 a1_0, .int .i64 a1_1] 23 (0, 0)) (by (with_reducible repeat (first | refine blk_drewN ?_ _ | refine blk_drew ?_ | refine blk_alloc ?_ _)); refine blk_far ?_ NB153_177.out _; (with_reducible repeat (first | refine blk_drewN ?_ _ | refine blk_drew ?_ | refine blk_alloc ?_ _)); refine blk_far ?_ NB153_177.out _; (with_reducible repeat (first | refine blk_drewN ?_ _ | refine blk_drew ?_ | refine blk_alloc ?_ _)); exact BK153.out) hb); have n2_ := Aside0.mk (blk_below (g := gb154) (o := .cells #[.int .i64 a2_0, .int .i64 a2_1] 23 (0, 0)) (by (with_reducible repeat (first | refine blk_drewN ?_ _ | refine blk_drew ?_ | refine blk_alloc ?_ _)); refine blk_far ?_ NB154_177.out _; (with_reducible repeat (first | refine blk_drewN ?_ _ | refine blk_drew ?_ | refine blk_alloc ?_ _)); refine blk_far ?_ NB154_177.out _; (with_reducible repeat (first | refine blk_drewN ?_ _ | refine blk_drew ?_ | refine blk_alloc ?_ _)); exact BK154.out) hb); have n3_ := Aside0.mk (blk_below (g := gb155) (o := .cells #[.int .i64 a3_0, .int .i64 a3_1] 23 (0, 0)) (by (with_reducible repeat (first | refine blk_drewN ?_ _ | refine blk_drew ?_ | refine blk_alloc ?_ _)); refine blk_far ?_ NB155_177.out _; (with_reducible repeat (first | refine blk_drewN ?_ _ | refine blk_drew ?_ | refine blk_alloc ?_ _)); refine blk_far ?_ NB155_177.out _; (with_reducible repeat (first | refine blk_drewN ?_ _ | refine blk_drew ?_ | refine blk_alloc ?_ _)); exact BK155.out) hb); have n4_ := Aside0.mk (blk_below (g := gb166) (o := .cells #[.int .i64 t164, .int .i64 t165] 24 (0, 0)) (by (with_reducible repeat (first | refine blk_drewN ?_ _ | refine blk_drew ?_ | refine blk_alloc ?_ _)); refine blk_far ?_ NB166_177.out _; (with_reducible repeat (first | refine blk_drewN ?_ _ | refine blk_drew ?_ | refine blk_alloc ?_ _)); refine blk_far ?_ NB166_177.out _; (with_reducible repeat (first | refine blk_drewN ?_ _ | refine blk_drew ?_ | refine blk_alloc ?_ _)); exact BK166.out) hb); have n5_ := Aside0.mk (blk_below (g := gb177) (o := .cells #[.int .i64 t175, .int .i64 t176] 24 (0, 0)) (by (with_reducible repeat (first | refine blk_drewN ?_ _ | refine blk_drew ?_ | refine blk_alloc ?_ _)); refine blk_put (cs := #[.int .i64 t175, .int .i64 0]) ?_ 1 _ rfl; (with_reducible repeat (first | refine blk_drewN ?_ _ | refine blk_drew ?_ | refine blk_alloc ?_ _)); refine blk_put (cs := #[.int .i64 0, .int .i64 0]) ?_ 0 _ rfl; (with_reducible repeat (first | refine blk_drewN ?_ _ | refine blk_drew ?_ | refine blk_alloc ?_ _)); exact BK177.out) hb); have n6_ := Aside0.mk (below_step (by repeat (first | (with_reducible first | exact HB.out | apply below_alloc | apply pw_below_drewN | apply below_drew1 | refine below_set ?_ GE152.out | refine below_set ?_ GE153.out | refine below_set ?_ GE154.out | refine below_set ?_ GE155.out | refine below_set ?_ GE166.out | refine below_set ?_ GE177.out) | exact HB.out)) hb); clear BK152; clear BK153; clear BK154; clear BK155; clear BK166; clear BK177; clear HB; have BK152 := n0_; have BK153 := n1_; have BK154 := n2_; have BK155 := n3_; have BK166 := n4_; have BK177 := n5_; have HB := n6_; clear n0_ n1_ n2_ n3_ n4_ n5_ n6_; (try clear hb); (try clear hb2); (try clear hk); (try clear hi)))
  go_ret
  exact ⟨by first | rfl | (simp [errW_none, errW_some] <;> rfl) | (simp [*, errW_none, errW_some] <;> rfl), by repeat (first | (with_reducible first | exact HB.out | apply below_alloc | apply pw_below_drewN | apply below_drew1 | refine below_set ?_ GE152.out | refine below_set ?_ GE153.out | refine below_set ?_ GE154.out | refine below_set ?_ GE155.out | refine below_set ?_ GE166.out | refine below_set ?_ GE177.out) | exact HB.out)⟩
 ·replace c17 := Bool.eq_false_iff.mpr c17
  subst c17
  have H1 : (some false) = some r := by rw [if_neg (show ¬ (false = true) by decide)] at H; exact H
  clear H
  have H := H1
  clear H1
  obtain rfl := Option.some.inj H
  exact absurd hr_ (by decide)


end Go.Proofs.Ytdlocaecdlgnjaa.PFnExactCubicAt
