/- The walks of FnMovedPaths, part 9: what the print wrote, with some proofs of the session's own. -/
import Derived.Test.YtdlocaecdlgnjaaName
import Derived.Test.YtdlocaecdlgnjaaQFnMovedPathsx0
import Derived.Test.YtdlocaecdlgnjaaQFnMovedPathsx5
namespace Go.Proofs.Ytdlocaecdlgnjaa.PFnMovedPaths
open Go.RowKit Go.Proofs.YtdlocaecdlgnjaaW.PrintWords Go.Proofs.YtdlocaecdlgnjaaW.PrintLast Go.Proofs.YtdlocaecdlgnjaaW.PrintMore
attribute [local go_sem] max2_int min2_int max_two min_two max_three min_three max_four min_four   -- for this text's walks alone
set_option linter.unusedVariables false
set_option linter.unusedSimpArgs false

/-! ### spec_DrawBoxes: function 57 -/
def spec_DrawBoxes.f (k : Nat) (l0 : List Int) : Option (Int × Int × Int × Int × Int × Int × Int × Int × Int × Int) := (spec_l01New.f k l0).bind fun bt364 => ((spec_l01Below.f bt364.1 bt364.2.1 bt364.2.2 9).bind fun bt368 => ((spec_l01Below.f bt364.1 bt368.2.1 bt368.2.2 9).bind fun bt371 => ((spec_l01Below.f bt364.1 bt371.2.1 bt371.2.2 9).bind fun bt375 => ((spec_l01Below.f bt364.1 bt375.2.1 bt375.2.2 9).bind fun bt378 => ((spec_l01Below.f bt364.1 bt378.2.1 bt378.2.2 9).bind fun bt381 => ((spec_l01Below.f bt364.1 bt381.2.1 bt381.2.2 9).bind fun bt384 => ((spec_l01Below.f bt364.1 bt384.2.1 bt384.2.2 9).bind fun bt388 => ((spec_l01Below.f bt364.1 bt388.2.1 bt388.2.2 9).bind fun bt391 => ((spec_l01Below.f bt364.1 bt391.2.1 bt391.2.2 18).bind fun bt394 => ((spec_l01Below.f bt364.1 bt394.2.1 bt394.2.2 18).bind fun bt397 => (some (bt368.1, bt371.1, wrap64 (bt368.1 + bt375.1), wrap64 (bt371.1 + bt378.1), bt381.1, bt384.1, wrap64 (bt381.1 + bt388.1), wrap64 (bt384.1 + bt391.1), bt394.1, bt397.1))))))))))))
def spec_DrawBoxes.T8 : Bool × List (List Nat × List Nat) := (true, [([], []), ([], []), ([], []), ([2], [2]), ([], []), ([4, 3], [4]), ([3, 5], [3, 5]), ([0, 5, 0], [0]), ([1, 7, 0, 1, 7], [1]), ([6, 8, 0, 1, 2, 3, 4, 5, 6, 7, 8], [6])])
def spec_DrawBoxes.B8 : List Nat := [0, 0, 0, 4, 0, 28, 60, 61, 191, 511]
theorem spec_DrawBoxes.tab8 : rtab .any (opsOf Try.f57 8) = spec_DrawBoxes.T8 := by kernel_rfl
theorem spec_DrawBoxes.bits8 : waitsOk spec_DrawBoxes.T8.2 spec_DrawBoxes.B8 = true := by kernel_rfl
set_option maxHeartbeats 8000000 in
set_option maxRecDepth 100000 in
theorem spec_DrawBoxes.calls (k : Nat) (A0 : Option Addr) (c0 : Nat) (l0 : List Int) (r1 : Int) (r2 : Int) (r3 : Int) (r4 : Int) (r5 : Int) (r6 : Int) (r7 : Int) (r8 : Int) (r9 : Int) (r10 : Int) (w : World) (hr0 : Kd.C (Kd.int .u8) w A0 l0.length l0) (hc0 : l0.length ≤ c0) (h : spec_DrawBoxes.f k l0 = some (r1, r2, r3, r4, r5, r6, r7, r8, r9, r10)) :
    Calls Try.prog 57 #[.slice A0 l0.length c0] w fun e w' => e = .returned (.tuple #[.agg #[.int .i64 r1, .int .i64 r2, .int .i64 r3, .int .i64 r4], .agg #[.int .i64 r5, .int .i64 r6, .int .i64 r7, .int .i64 r8], .agg #[.int .i64 r9, .int .i64 r10]]) ∧ Below w.heap.size w w' := by
 have hu40 := Try.underlying40
 have hu24 := Try.underlying24
 have HR0 := Aside0.mk hr0
 have HC0 := Aside0.mk hc0
 clear hr0 hc0
 have HB := Aside0.mk (Below.refl w.heap.size w)
 have H : ((spec_l01New.f k l0).bind fun bt364 => ((spec_l01Below.f bt364.1 bt364.2.1 bt364.2.2 9).bind fun bt368 => ((spec_l01Below.f bt364.1 bt368.2.1 bt368.2.2 9).bind fun bt371 => ((spec_l01Below.f bt364.1 bt371.2.1 bt371.2.2 9).bind fun bt375 => ((spec_l01Below.f bt364.1 bt375.2.1 bt375.2.2 9).bind fun bt378 => ((spec_l01Below.f bt364.1 bt378.2.1 bt378.2.2 9).bind fun bt381 => ((spec_l01Below.f bt364.1 bt381.2.1 bt381.2.2 9).bind fun bt384 => ((spec_l01Below.f bt364.1 bt384.2.1 bt384.2.2 9).bind fun bt388 => ((spec_l01Below.f bt364.1 bt388.2.1 bt388.2.2 9).bind fun bt391 => ((spec_l01Below.f bt364.1 bt391.2.1 bt391.2.2 18).bind fun bt394 => ((spec_l01Below.f bt364.1 bt394.2.1 bt394.2.2 18).bind fun bt397 => (some (bt368.1, bt371.1, wrap64 (bt368.1 + bt375.1), wrap64 (bt371.1 + bt378.1), bt381.1, bt384.1, wrap64 (bt381.1 + bt388.1), wrap64 (bt384.1 + bt391.1), bt394.1, bt397.1))))))))))))) = some (r1, r2, r3, r4, r5, r6, r7, r8, r9, r10) := h
 clear h
 replace H := Option.bind_eq_some_iff.mp H
 obtain ⟨⟨t364, t365, t366⟩, A20, H⟩ := H
 replace H : ((spec_l01Below.f t364 t365 t366 9).bind fun bt368 => ((spec_l01Below.f t364 bt368.2.1 bt368.2.2 9).bind fun bt371 => ((spec_l01Below.f t364 bt371.2.1 bt371.2.2 9).bind fun bt375 => ((spec_l01Below.f t364 bt375.2.1 bt375.2.2 9).bind fun bt378 => ((spec_l01Below.f t364 bt378.2.1 bt378.2.2 9).bind fun bt381 => ((spec_l01Below.f t364 bt381.2.1 bt381.2.2 9).bind fun bt384 => ((spec_l01Below.f t364 bt384.2.1 bt384.2.2 9).bind fun bt388 => ((spec_l01Below.f t364 bt388.2.1 bt388.2.2 9).bind fun bt391 => ((spec_l01Below.f t364 bt391.2.1 bt391.2.2 18).bind fun bt394 => ((spec_l01Below.f t364 bt394.2.1 bt394.2.2 18).bind fun bt397 => (some (bt368.1, bt371.1, wrap64 (bt368.1 + bt375.1), wrap64 (bt371.1 + bt378.1), bt381.1, bt384.1, wrap64 (bt381.1 + bt388.1), wrap64 (bt384.1 + bt391.1), bt394.1, bt397.1)))))))))))) = some (r1, r2, r3, r4, r5, r6, r7, r8, r9, r10) := H
 have A2 := Aside0.mk A20
 clear A20
 replace H := Option.bind_eq_some_iff.mp H
 obtain ⟨⟨t368, t369, t370⟩, A30, H⟩ := H
 replace H : ((spec_l01Below.f t364 t369 t370 9).bind fun bt371 => ((spec_l01Below.f t364 bt371.2.1 bt371.2.2 9).bind fun bt375 => ((spec_l01Below.f t364 bt375.2.1 bt375.2.2 9).bind fun bt378 => ((spec_l01Below.f t364 bt378.2.1 bt378.2.2 9).bind fun bt381 => ((spec_l01Below.f t364 bt381.2.1 bt381.2.2 9).bind fun bt384 => ((spec_l01Below.f t364 bt384.2.1 bt384.2.2 9).bind fun bt388 => ((spec_l01Below.f t364 bt388.2.1 bt388.2.2 9).bind fun bt391 => ((spec_l01Below.f t364 bt391.2.1 bt391.2.2 18).bind fun bt394 => ((spec_l01Below.f t364 bt394.2.1 bt394.2.2 18).bind fun bt397 => (some (t368, bt371.1, wrap64 (t368 + bt375.1), wrap64 (bt371.1 + bt378.1), bt381.1, bt384.1, wrap64 (bt381.1 + bt388.1), wrap64 (bt384.1 + bt391.1), bt394.1, bt397.1))))))))))) = some (r1, r2, r3, r4, r5, r6, r7, r8, r9, r10) := H
 have A3 := Aside0.mk A30
 clear A30
 replace H := Option.bind_eq_some_iff.mp H
 obtain ⟨⟨t371, t372, t373⟩, A40, H⟩ := H
 replace H : ((spec_l01Below.f t364 t372 t373 9).bind fun bt375 => ((spec_l01Below.f t364 bt375.2.1 bt375.2.2 9).bind fun bt378 => ((spec_l01Below.f t364 bt378.2.1 bt378.2.2 9).bind fun bt381 => ((spec_l01Below.f t364 bt381.2.1 bt381.2.2 9).bind fun bt384 => ((spec_l01Below.f t364 bt384.2.1 bt384.2.2 9).bind fun bt388 => ((spec_l01Below.f t364 bt388.2.1 bt388.2.2 9).bind fun bt391 => ((spec_l01Below.f t364 bt391.2.1 bt391.2.2 18).bind fun bt394 => ((spec_l01Below.f t364 bt394.2.1 bt394.2.2 18).bind fun bt397 => (some (t368, t371, wrap64 (t368 + bt375.1), wrap64 (t371 + bt378.1), bt381.1, bt384.1, wrap64 (bt381.1 + bt388.1), wrap64 (bt384.1 + bt391.1), bt394.1, bt397.1)))))))))) = some (r1, r2, r3, r4, r5, r6, r7, r8, r9, r10) := H
 have A4 := Aside0.mk A40
 clear A40
 replace H := Option.bind_eq_some_iff.mp H
 obtain ⟨⟨t375, t376, t377⟩, A50, H⟩ := H
 replace H : ((spec_l01Below.f t364 t376 t377 9).bind fun bt378 => ((spec_l01Below.f t364 bt378.2.1 bt378.2.2 9).bind fun bt381 => ((spec_l01Below.f t364 bt381.2.1 bt381.2.2 9).bind fun bt384 => ((spec_l01Below.f t364 bt384.2.1 bt384.2.2 9).bind fun bt388 => ((spec_l01Below.f t364 bt388.2.1 bt388.2.2 9).bind fun bt391 => ((spec_l01Below.f t364 bt391.2.1 bt391.2.2 18).bind fun bt394 => ((spec_l01Below.f t364 bt394.2.1 bt394.2.2 18).bind fun bt397 => (some (t368, t371, wrap64 (t368 + t375), wrap64 (t371 + bt378.1), bt381.1, bt384.1, wrap64 (bt381.1 + bt388.1), wrap64 (bt384.1 + bt391.1), bt394.1, bt397.1))))))))) = some (r1, r2, r3, r4, r5, r6, r7, r8, r9, r10) := H
 have A5 := Aside0.mk A50
 clear A50
 replace H := Option.bind_eq_some_iff.mp H
 obtain ⟨⟨t378, t379, t380⟩, A60, H⟩ := H
 replace H : ((spec_l01Below.f t364 t379 t380 9).bind fun bt381 => ((spec_l01Below.f t364 bt381.2.1 bt381.2.2 9).bind fun bt384 => ((spec_l01Below.f t364 bt384.2.1 bt384.2.2 9).bind fun bt388 => ((spec_l01Below.f t364 bt388.2.1 bt388.2.2 9).bind fun bt391 => ((spec_l01Below.f t364 bt391.2.1 bt391.2.2 18).bind fun bt394 => ((spec_l01Below.f t364 bt394.2.1 bt394.2.2 18).bind fun bt397 => (some (t368, t371, wrap64 (t368 + t375), wrap64 (t371 + t378), bt381.1, bt384.1, wrap64 (bt381.1 + bt388.1), wrap64 (bt384.1 + bt391.1), bt394.1, bt397.1)))))))) = some (r1, r2, r3, r4, r5, r6, r7, r8, r9, r10) := H
 have A6 := Aside0.mk A60
 clear A60
 replace H := Option.bind_eq_some_iff.mp H
 obtain ⟨⟨t381, t382, t383⟩, A70, H⟩ := H
 replace H : ((spec_l01Below.f t364 t382 t383 9).bind fun bt384 => ((spec_l01Below.f t364 bt384.2.1 bt384.2.2 9).bind fun bt388 => ((spec_l01Below.f t364 bt388.2.1 bt388.2.2 9).bind fun bt391 => ((spec_l01Below.f t364 bt391.2.1 bt391.2.2 18).bind fun bt394 => ((spec_l01Below.f t364 bt394.2.1 bt394.2.2 18).bind fun bt397 => (some (t368, t371, wrap64 (t368 + t375), wrap64 (t371 + t378), t381, bt384.1, wrap64 (t381 + bt388.1), wrap64 (bt384.1 + bt391.1), bt394.1, bt397.1))))))) = some (r1, r2, r3, r4, r5, r6, r7, r8, r9, r10) := H
 have A7 := Aside0.mk A70
 clear A70
 replace H := Option.bind_eq_some_iff.mp H
 obtain ⟨⟨t384, t385, t386⟩, A80, H⟩ := H
 replace H : ((spec_l01Below.f t364 t385 t386 9).bind fun bt388 => ((spec_l01Below.f t364 bt388.2.1 bt388.2.2 9).bind fun bt391 => ((spec_l01Below.f t364 bt391.2.1 bt391.2.2 18).bind fun bt394 => ((spec_l01Below.f t364 bt394.2.1 bt394.2.2 18).bind fun bt397 => (some (t368, t371, wrap64 (t368 + t375), wrap64 (t371 + t378), t381, t384, wrap64 (t381 + bt388.1), wrap64 (t384 + bt391.1), bt394.1, bt397.1)))))) = some (r1, r2, r3, r4, r5, r6, r7, r8, r9, r10) := H
 have A8 := Aside0.mk A80
 clear A80
 replace H := Option.bind_eq_some_iff.mp H
 obtain ⟨⟨t388, t389, t390⟩, A90, H⟩ := H
 replace H : ((spec_l01Below.f t364 t389 t390 9).bind fun bt391 => ((spec_l01Below.f t364 bt391.2.1 bt391.2.2 18).bind fun bt394 => ((spec_l01Below.f t364 bt394.2.1 bt394.2.2 18).bind fun bt397 => (some (t368, t371, wrap64 (t368 + t375), wrap64 (t371 + t378), t381, t384, wrap64 (t381 + t388), wrap64 (t384 + bt391.1), bt394.1, bt397.1))))) = some (r1, r2, r3, r4, r5, r6, r7, r8, r9, r10) := H
 have A9 := Aside0.mk A90
 clear A90
 replace H := Option.bind_eq_some_iff.mp H
 obtain ⟨⟨t391, t392, t393⟩, A100, H⟩ := H
 replace H : ((spec_l01Below.f t364 t392 t393 18).bind fun bt394 => ((spec_l01Below.f t364 bt394.2.1 bt394.2.2 18).bind fun bt397 => (some (t368, t371, wrap64 (t368 + t375), wrap64 (t371 + t378), t381, t384, wrap64 (t381 + t388), wrap64 (t384 + t391), bt394.1, bt397.1)))) = some (r1, r2, r3, r4, r5, r6, r7, r8, r9, r10) := H
 have A10 := Aside0.mk A100
 clear A100
 replace H := Option.bind_eq_some_iff.mp H
 obtain ⟨⟨t394, t395, t396⟩, A110, H⟩ := H
 replace H : ((spec_l01Below.f t364 t395 t396 18).bind fun bt397 => (some (t368, t371, wrap64 (t368 + t375), wrap64 (t371 + t378), t381, t384, wrap64 (t381 + t388), wrap64 (t384 + t391), t394, bt397.1))) = some (r1, r2, r3, r4, r5, r6, r7, r8, r9, r10) := H
 have A11 := Aside0.mk A110
 clear A110
 replace H := Option.bind_eq_some_iff.mp H
 obtain ⟨⟨t397, t398, t399⟩, A120, H⟩ := H
 replace H : (some (t368, t371, wrap64 (t368 + t375), wrap64 (t371 + t378), t381, t384, wrap64 (t381 + t388), wrap64 (t384 + t391), t394, t397)) = some (r1, r2, r3, r4, r5, r6, r7, r8, r9, r10) := H
 have A12 := Aside0.mk A120
 clear A120
 simp only [Option.some.injEq, Prod.mk.injEq] at H
 obtain ⟨rfl, rfl, rfl, rfl, rfl, rfl, rfl, rfl, rfl, rfl⟩ := H
 go_enter Try.func57, Try.ntmps57
 try go_wp2_with (first | ((with_reducible refine gate_dst (N := 2) rfl ?_); refine box_event ?hg (N := 2) ?hd (cs := #[.int .i64 0, .int .i64 0, .int .i64 0, .int .i64 0]) (t := 40) ?hr ?_; (case hd => rfl); (case hg => rfl); (case hr => first | (go_simp; done) | (go_simp; rfl)); intro gb361 hg w13 hbox hb; have n0_ := Aside0.mk (below_step (by repeat (first | (with_reducible first | exact HB.out | apply below_alloc | apply pw_below_drewN | apply below_drew1) | exact HB.out)) hb); have n1_ := Aside0.mk (hbox); have n2_ := Aside0.mk ((by rw [hg]; exact (below_size (by repeat (first | (with_reducible first | exact HB.out | apply below_alloc | apply pw_below_drewN | apply below_drew1) | exact HB.out))) : w.heap.size ≤ gb361)); have n3_ := Aside0.mk ((by rw [hg]; exact (below_size (by repeat (first | (with_reducible first | exact HB.out | apply below_alloc | apply pw_below_drewN | apply below_drew1) | exact HB.out))) : w.heap.size ≤ gb361)); clear HB; have HB := n0_; have BK361 := n1_; have GW361 := n2_; have GE361 := n3_; clear n0_ n1_ n2_ n3_; clear hb hbox hg) | ((with_reducible refine gate_dst (N := 3) rfl ?_); refine box_event ?hg (N := 3) ?hd (cs := #[.int .i64 0, .int .i64 0, .int .i64 0, .int .i64 0]) (t := 40) ?hr ?_; (case hd => rfl); (case hg => rfl); (case hr => first | (go_simp; done) | (go_simp; rfl)); intro gb362 hg w14 hbox hb; have n0_ := Aside0.mk (blk_below (g := gb361) (o := .cells #[.int .i64 0, .int .i64 0, .int .i64 0, .int .i64 0] 40 (0, 0)) (by (with_reducible repeat (first | refine blk_drewN ?_ _ | refine blk_drew ?_ | refine blk_alloc ?_ _)); exact BK361.out) hb); have n1_ := Aside0.mk (below_step (by repeat (first | (with_reducible first | exact HB.out | apply below_alloc | apply pw_below_drewN | apply below_drew1 | refine below_set ?_ GE361.out) | exact HB.out)) hb); have n2_ := Aside0.mk (hbox); have n3_ := Aside0.mk ((by rw [hg]; exact (below_size (by repeat (first | (with_reducible first | exact HB.out | apply below_alloc | apply pw_below_drewN | apply below_drew1 | refine below_set ?_ GE361.out) | exact HB.out))) : w.heap.size ≤ gb362)); have n4_ := Aside0.mk ((by rw [hg]; exact (below_size (by repeat (first | (with_reducible first | exact HB.out | apply below_alloc | apply pw_below_drewN | apply below_drew1 | refine below_set ?_ GE361.out) | exact HB.out))) : w.heap.size ≤ gb362)); have n5_ := Aside0.mk ((by rw [hg]; exact Nat.ne_of_lt (blk_lt (g := gb361) (o := .cells #[.int .i64 0, .int .i64 0, .int .i64 0, .int .i64 0] 40 (0, 0)) (by (with_reducible repeat (first | refine blk_drewN ?_ _ | refine blk_drew ?_ | refine blk_alloc ?_ _)); exact BK361.out)) : gb361 ≠ gb362)); have n6_ := Aside0.mk ((by rw [hg]; exact Nat.ne_of_gt (blk_lt (g := gb361) (o := .cells #[.int .i64 0, .int .i64 0, .int .i64 0, .int .i64 0] 40 (0, 0)) (by (with_reducible repeat (first | refine blk_drewN ?_ _ | refine blk_drew ?_ | refine blk_alloc ?_ _)); exact BK361.out)) : gb362 ≠ gb361)); clear BK361; clear HB; have BK361 := n0_; have HB := n1_; have BK362 := n2_; have GW362 := n3_; have GE362 := n4_; have NB361_362 := n5_; have NB362_361 := n6_; clear n0_ n1_ n2_ n3_ n4_ n5_ n6_; clear hb hbox hg) | ((with_reducible refine gate_dst (N := 4) rfl ?_); refine box_event ?hg (N := 4) ?hd (cs := #[.int .i64 0, .int .i64 0]) (t := 24) ?hr ?_; (case hd => rfl); (case hg => rfl); (case hr => first | (go_simp; done) | (go_simp; rfl)); intro gb363 hg w15 hbox hb; have n0_ := Aside0.mk (blk_below (g := gb361) (o := .cells #[.int .i64 0, .int .i64 0, .int .i64 0, .int .i64 0] 40 (0, 0)) (by (with_reducible repeat (first | refine blk_drewN ?_ _ | refine blk_drew ?_ | refine blk_alloc ?_ _)); exact BK361.out) hb); have n1_ := Aside0.mk (blk_below (g := gb362) (o := .cells #[.int .i64 0, .int .i64 0, .int .i64 0, .int .i64 0] 40 (0, 0)) (by (with_reducible repeat (first | refine blk_drewN ?_ _ | refine blk_drew ?_ | refine blk_alloc ?_ _)); exact BK362.out) hb); have n2_ := Aside0.mk (below_step (by repeat (first | (with_reducible first | exact HB.out | apply below_alloc | apply pw_below_drewN | apply below_drew1 | refine below_set ?_ GE361.out | refine below_set ?_ GE362.out) | exact HB.out)) hb); have n3_ := Aside0.mk (hbox); have n4_ := Aside0.mk ((by rw [hg]; exact (below_size (by repeat (first | (with_reducible first | exact HB.out | apply below_alloc | apply pw_below_drewN | apply below_drew1 | refine below_set ?_ GE361.out | refine below_set ?_ GE362.out) | exact HB.out))) : w.heap.size ≤ gb363)); have n5_ := Aside0.mk ((by rw [hg]; exact (below_size (by repeat (first | (with_reducible first | exact HB.out | apply below_alloc | apply pw_below_drewN | apply below_drew1 | refine below_set ?_ GE361.out | refine below_set ?_ GE362.out) | exact HB.out))) : w.heap.size ≤ gb363)); have n6_ := Aside0.mk ((by rw [hg]; exact Nat.ne_of_lt (blk_lt (g := gb361) (o := .cells #[.int .i64 0, .int .i64 0, .int .i64 0, .int .i64 0] 40 (0, 0)) (by (with_reducible repeat (first | refine blk_drewN ?_ _ | refine blk_drew ?_ | refine blk_alloc ?_ _)); exact BK361.out)) : gb361 ≠ gb363)); have n7_ := Aside0.mk ((by rw [hg]; exact Nat.ne_of_gt (blk_lt (g := gb361) (o := .cells #[.int .i64 0, .int .i64 0, .int .i64 0, .int .i64 0] 40 (0, 0)) (by (with_reducible repeat (first | refine blk_drewN ?_ _ | refine blk_drew ?_ | refine blk_alloc ?_ _)); exact BK361.out)) : gb363 ≠ gb361)); have n8_ := Aside0.mk ((by rw [hg]; exact Nat.ne_of_lt (blk_lt (g := gb362) (o := .cells #[.int .i64 0, .int .i64 0, .int .i64 0, .int .i64 0] 40 (0, 0)) (by (with_reducible repeat (first | refine blk_drewN ?_ _ | refine blk_drew ?_ | refine blk_alloc ?_ _)); exact BK362.out)) : gb362 ≠ gb363)); have n9_ := Aside0.mk ((by rw [hg]; exact Nat.ne_of_gt (blk_lt (g := gb362) (o := .cells #[.int .i64 0, .int .i64 0, .int .i64 0, .int .i64 0] 40 (0, 0)) (by (with_reducible repeat (first | refine blk_drewN ?_ _ | refine blk_drew ?_ | refine blk_alloc ?_ _)); exact BK362.out)) : gb363 ≠ gb362)); clear BK361; clear BK362; clear HB; have BK361 := n0_; have BK362 := n1_; have HB := n2_; have BK363 := n3_; have GW363 := n4_; have GE363 := n5_; have NB361_363 := n6_; have NB363_361 := n7_; have NB362_363 := n8_; have NB363_362 := n9_; clear n0_ n1_ n2_ n3_ n4_ n5_ n6_ n7_ n8_ n9_; clear hb hbox hg) | ((with_reducible refine gate_callee (f := 78) rfl ?_); refine goesL_ (some 9) rfl rfl Try.func78 (by kernel_rfl) rfl #[.slice A0 l0.length c0] rfl (by (try simp only [List.map_toArray, List.map_cons, List.map_nil]); first | done | rfl | (simp only [List.length_drop, List.length_take]; rfl)) ?_; (with_reducible refine (spec_l01New.calls k _ _ l0 t364 t365 t366 w _ ?side1 ?side2 ?side3 A2.out).mono ?_); (case side1 => repeat (first | (with_reducible first | exact HB.out | apply below_alloc | apply pw_below_drewN | apply below_drew1 | refine below_set ?_ GE361.out | refine below_set ?_ GE362.out | refine below_set ?_ GE363.out) | exact HB.out)); (case side2 => exact HR0.out); (case side3 => exact HC0.out); rintro e w16 ⟨g367, rfl, hi, hb, hb2⟩; refine ⟨_, rfl, ?_⟩; have n0_ := Aside0.mk (blk_below (g := gb361) (o := .cells #[.int .i64 0, .int .i64 0, .int .i64 0, .int .i64 0] 40 (0, 0)) (by (with_reducible repeat (first | refine blk_drewN ?_ _ | refine blk_drew ?_ | refine blk_alloc ?_ _)); exact BK361.out) hb2); have n1_ := Aside0.mk (blk_below (g := gb362) (o := .cells #[.int .i64 0, .int .i64 0, .int .i64 0, .int .i64 0] 40 (0, 0)) (by (with_reducible repeat (first | refine blk_drewN ?_ _ | refine blk_drew ?_ | refine blk_alloc ?_ _)); exact BK362.out) hb2); have n2_ := Aside0.mk (blk_below (g := gb363) (o := .cells #[.int .i64 0, .int .i64 0] 24 (0, 0)) (by (with_reducible repeat (first | refine blk_drewN ?_ _ | refine blk_drew ?_ | refine blk_alloc ?_ _)); exact BK363.out) hb2); have n3_ := Aside0.mk (hb); have n4_ := Aside0.mk (hi); have n5_ := Aside0.mk (IsS105.ne_blk hi (blk_below (g := gb361) (o := .cells #[.int .i64 0, .int .i64 0, .int .i64 0, .int .i64 0] 40 (0, 0)) (by (with_reducible repeat (first | refine blk_drewN ?_ _ | refine blk_drew ?_ | refine blk_alloc ?_ _)); exact BK361.out) hb2) (by decide)); have n6_ := Aside0.mk (Ne.symm (IsS105.ne_blk hi (blk_below (g := gb361) (o := .cells #[.int .i64 0, .int .i64 0, .int .i64 0, .int .i64 0] 40 (0, 0)) (by (with_reducible repeat (first | refine blk_drewN ?_ _ | refine blk_drew ?_ | refine blk_alloc ?_ _)); exact BK361.out) hb2) (by decide))); have n7_ := Aside0.mk (IsS105.ne_blk hi (blk_below (g := gb362) (o := .cells #[.int .i64 0, .int .i64 0, .int .i64 0, .int .i64 0] 40 (0, 0)) (by (with_reducible repeat (first | refine blk_drewN ?_ _ | refine blk_drew ?_ | refine blk_alloc ?_ _)); exact BK362.out) hb2) (by decide)); have n8_ := Aside0.mk (Ne.symm (IsS105.ne_blk hi (blk_below (g := gb362) (o := .cells #[.int .i64 0, .int .i64 0, .int .i64 0, .int .i64 0] 40 (0, 0)) (by (with_reducible repeat (first | refine blk_drewN ?_ _ | refine blk_drew ?_ | refine blk_alloc ?_ _)); exact BK362.out) hb2) (by decide))); have n9_ := Aside0.mk (IsS105.ne_blk hi (blk_below (g := gb363) (o := .cells #[.int .i64 0, .int .i64 0] 24 (0, 0)) (by (with_reducible repeat (first | refine blk_drewN ?_ _ | refine blk_drew ?_ | refine blk_alloc ?_ _)); exact BK363.out) hb2) (by decide)); have n10_ := Aside0.mk (Ne.symm (IsS105.ne_blk hi (blk_below (g := gb363) (o := .cells #[.int .i64 0, .int .i64 0] 24 (0, 0)) (by (with_reducible repeat (first | refine blk_drewN ?_ _ | refine blk_drew ?_ | refine blk_alloc ?_ _)); exact BK363.out) hb2) (by decide))); clear BK361; clear BK362; clear BK363; clear HB; have BK361 := n0_; have BK362 := n1_; have BK363 := n2_; have HB := n3_; have HI367 := n4_; have NB367_361 := n5_; have NB361_367 := n6_; have NB367_362 := n7_; have NB362_367 := n8_; have NB367_363 := n9_; have NB363_367 := n10_; clear n0_ n1_ n2_ n3_ n4_ n5_ n6_ n7_ n8_ n9_ n10_; (try clear hb); (try clear hb2); (try clear hk); (try clear hi)) | ((with_reducible refine gate_callee (f := 79) rfl ?_); refine goesL_ (some 11) rfl rfl Try.func79 (by kernel_rfl) rfl #[.pointer (some ⟨g367, 0, none⟩), .int .i64 9] rfl (by (try simp only [List.map_toArray, List.map_cons, List.map_nil]); first | done | rfl | (simp only [List.length_drop, List.length_take]; rfl)) ?_; (with_reducible refine (spec_l01Below.calls g367 t364 t365 t366 9 t368 t369 t370 w _ ?side1 ?side2 A3.out).mono ?_); (case side1 => repeat (first | (with_reducible first | exact HI367.out | apply IsS105.alloc | apply IsS105.drewN | apply IsS105.drew | apply IsS105.set_1 | apply IsS105.set_2 | refine IsS105.far ?_ NB367_361.out _ | refine IsS105.far ?_ NB367_362.out _ | refine IsS105.far ?_ NB367_363.out _) | exact HI367.out)); (case side2 => repeat (first | (with_reducible first | exact HB.out | apply below_alloc | apply pw_below_drewN | apply below_drew1 | refine below_set ?_ (IsS105.ge HI367.out) | refine below_set ?_ GE361.out | refine below_set ?_ GE362.out | refine below_set ?_ GE363.out) | exact HB.out)); rintro e w17 ⟨rfl, hi, hb, hk⟩; refine ⟨_, rfl, ?_⟩; have n0_ := Aside0.mk (KeepBut.blk hk (g' := gb361) (o := .cells #[.int .i64 0, .int .i64 0, .int .i64 0, .int .i64 0] 40 (0, 0)) (by (with_reducible repeat (first | refine blk_drewN ?_ _ | refine blk_drew ?_ | refine blk_alloc ?_ _)); exact BK361.out) NB361_367.out (by simp)); have n1_ := Aside0.mk (KeepBut.blk hk (g' := gb362) (o := .cells #[.int .i64 0, .int .i64 0, .int .i64 0, .int .i64 0] 40 (0, 0)) (by (with_reducible repeat (first | refine blk_drewN ?_ _ | refine blk_drew ?_ | refine blk_alloc ?_ _)); exact BK362.out) NB362_367.out (by simp)); have n2_ := Aside0.mk (KeepBut.blk hk (g' := gb363) (o := .cells #[.int .i64 0, .int .i64 0] 24 (0, 0)) (by (with_reducible repeat (first | refine blk_drewN ?_ _ | refine blk_drew ?_ | refine blk_alloc ?_ _)); exact BK363.out) NB363_367.out (by simp)); have n3_ := Aside0.mk (hb); have n4_ := Aside0.mk (hi); clear BK361; clear BK362; clear BK363; clear HB; clear HI367; have BK361 := n0_; have BK362 := n1_; have BK363 := n2_; have HB := n3_; have HI367 := n4_; clear n0_ n1_ n2_ n3_ n4_; (try clear hb); (try clear hb2); (try clear hk); (try clear hi)) | ((with_reducible refine gate_callee (f := 79) rfl ?_); refine goesL_ (some 13) rfl rfl Try.func79 (by kernel_rfl) rfl #[.pointer (some ⟨g367, 0, none⟩), .int .i64 9] rfl (by (try simp only [List.map_toArray, List.map_cons, List.map_nil]); first | done | rfl | (simp only [List.length_drop, List.length_take]; rfl)) ?_; (with_reducible refine (spec_l01Below.calls g367 t364 t369 t370 9 t371 t372 t373 w _ ?side1 ?side2 A4.out).mono ?_); (case side1 => repeat (first | (with_reducible first | exact HI367.out | apply IsS105.alloc | apply IsS105.drewN | apply IsS105.drew | apply IsS105.set_1 | apply IsS105.set_2 | refine IsS105.far ?_ NB367_361.out _ | refine IsS105.far ?_ NB367_362.out _ | refine IsS105.far ?_ NB367_363.out _) | exact HI367.out)); (case side2 => repeat (first | (with_reducible first | exact HB.out | apply below_alloc | apply pw_below_drewN | apply below_drew1 | refine below_set ?_ (IsS105.ge HI367.out) | refine below_set ?_ GE361.out | refine below_set ?_ GE362.out | refine below_set ?_ GE363.out) | exact HB.out)); rintro e w18 ⟨rfl, hi, hb, hk⟩; refine ⟨_, rfl, ?_⟩; have n0_ := Aside0.mk (KeepBut.blk hk (g' := gb361) (o := .cells #[.int .i64 0, .int .i64 0, .int .i64 0, .int .i64 0] 40 (0, 0)) (by (with_reducible repeat (first | refine blk_drewN ?_ _ | refine blk_drew ?_ | refine blk_alloc ?_ _)); exact BK361.out) NB361_367.out (by simp)); have n1_ := Aside0.mk (KeepBut.blk hk (g' := gb362) (o := .cells #[.int .i64 0, .int .i64 0, .int .i64 0, .int .i64 0] 40 (0, 0)) (by (with_reducible repeat (first | refine blk_drewN ?_ _ | refine blk_drew ?_ | refine blk_alloc ?_ _)); exact BK362.out) NB362_367.out (by simp)); have n2_ := Aside0.mk (KeepBut.blk hk (g' := gb363) (o := .cells #[.int .i64 0, .int .i64 0] 24 (0, 0)) (by (with_reducible repeat (first | refine blk_drewN ?_ _ | refine blk_drew ?_ | refine blk_alloc ?_ _)); exact BK363.out) NB363_367.out (by simp)); have n3_ := Aside0.mk (hb); have n4_ := Aside0.mk (hi); clear BK361; clear BK362; clear BK363; clear HB; clear HI367; have BK361 := n0_; have BK362 := n1_; have BK363 := n2_; have HB := n3_; have HI367 := n4_; clear n0_ n1_ n2_ n3_ n4_; (try clear hb); (try clear hb2); (try clear hk); (try clear hi)) | ((with_reducible refine gate_dst (N := 6) rfl ?_); refine box_event ?hg (N := 6) ?hd (cs := #[.int .i64 0, .int .i64 0, .int .i64 0, .int .i64 0]) (t := 40) ?hr ?_; (case hd => rfl); (case hg => rfl); (case hr => first | (go_simp; done) | (go_simp; rfl)); intro gb374 hg w19 hbox hb; have n0_ := Aside0.mk (blk_below (g := gb361) (o := .cells #[.int .i64 0, .int .i64 0, .int .i64 0, .int .i64 0] 40 (0, 0)) (by (with_reducible repeat (first | refine blk_drewN ?_ _ | refine blk_drew ?_ | refine blk_alloc ?_ _)); exact BK361.out) hb); have n1_ := Aside0.mk (blk_below (g := gb362) (o := .cells #[.int .i64 0, .int .i64 0, .int .i64 0, .int .i64 0] 40 (0, 0)) (by (with_reducible repeat (first | refine blk_drewN ?_ _ | refine blk_drew ?_ | refine blk_alloc ?_ _)); exact BK362.out) hb); have n2_ := Aside0.mk (blk_below (g := gb363) (o := .cells #[.int .i64 0, .int .i64 0] 24 (0, 0)) (by (with_reducible repeat (first | refine blk_drewN ?_ _ | refine blk_drew ?_ | refine blk_alloc ?_ _)); exact BK363.out) hb); have n3_ := Aside0.mk (IsS105.below (by repeat (first | (with_reducible first | exact HI367.out | apply IsS105.alloc | apply IsS105.drewN | apply IsS105.drew | apply IsS105.set_1 | apply IsS105.set_2 | refine IsS105.far ?_ NB367_361.out _ | refine IsS105.far ?_ NB367_362.out _ | refine IsS105.far ?_ NB367_363.out _) | exact HI367.out)) hb); have n4_ := Aside0.mk (below_step (by repeat (first | (with_reducible first | exact HB.out | apply below_alloc | apply pw_below_drewN | apply below_drew1 | refine below_set ?_ (IsS105.ge HI367.out) | refine below_set ?_ GE361.out | refine below_set ?_ GE362.out | refine below_set ?_ GE363.out) | exact HB.out)) hb); have n5_ := Aside0.mk (hbox); have n6_ := Aside0.mk ((by rw [hg]; exact (below_size (by repeat (first | (with_reducible first | exact HB.out | apply below_alloc | apply pw_below_drewN | apply below_drew1 | refine below_set ?_ (IsS105.ge HI367.out) | refine below_set ?_ GE361.out | refine below_set ?_ GE362.out | refine below_set ?_ GE363.out) | exact HB.out))) : w.heap.size ≤ gb374)); have n7_ := Aside0.mk ((by rw [hg]; exact (below_size (by repeat (first | (with_reducible first | exact HB.out | apply below_alloc | apply pw_below_drewN | apply below_drew1 | refine below_set ?_ (IsS105.ge HI367.out) | refine below_set ?_ GE361.out | refine below_set ?_ GE362.out | refine below_set ?_ GE363.out) | exact HB.out))) : w.heap.size ≤ gb374)); have n8_ := Aside0.mk ((by rw [hg]; exact Nat.ne_of_lt (blk_lt (g := gb361) (o := .cells #[.int .i64 0, .int .i64 0, .int .i64 0, .int .i64 0] 40 (0, 0)) (by (with_reducible repeat (first | refine blk_drewN ?_ _ | refine blk_drew ?_ | refine blk_alloc ?_ _)); exact BK361.out)) : gb361 ≠ gb374)); have n9_ := Aside0.mk ((by rw [hg]; exact Nat.ne_of_gt (blk_lt (g := gb361) (o := .cells #[.int .i64 0, .int .i64 0, .int .i64 0, .int .i64 0] 40 (0, 0)) (by (with_reducible repeat (first | refine blk_drewN ?_ _ | refine blk_drew ?_ | refine blk_alloc ?_ _)); exact BK361.out)) : gb374 ≠ gb361)); have n10_ := Aside0.mk ((by rw [hg]; exact Nat.ne_of_lt (blk_lt (g := gb362) (o := .cells #[.int .i64 0, .int .i64 0, .int .i64 0, .int .i64 0] 40 (0, 0)) (by (with_reducible repeat (first | refine blk_drewN ?_ _ | refine blk_drew ?_ | refine blk_alloc ?_ _)); exact BK362.out)) : gb362 ≠ gb374)); have n11_ := Aside0.mk ((by rw [hg]; exact Nat.ne_of_gt (blk_lt (g := gb362) (o := .cells #[.int .i64 0, .int .i64 0, .int .i64 0, .int .i64 0] 40 (0, 0)) (by (with_reducible repeat (first | refine blk_drewN ?_ _ | refine blk_drew ?_ | refine blk_alloc ?_ _)); exact BK362.out)) : gb374 ≠ gb362)); have n12_ := Aside0.mk ((by rw [hg]; exact Nat.ne_of_lt (blk_lt (g := gb363) (o := .cells #[.int .i64 0, .int .i64 0] 24 (0, 0)) (by (with_reducible repeat (first | refine blk_drewN ?_ _ | refine blk_drew ?_ | refine blk_alloc ?_ _)); exact BK363.out)) : gb363 ≠ gb374)); have n13_ := Aside0.mk ((by rw [hg]; exact Nat.ne_of_gt (blk_lt (g := gb363) (o := .cells #[.int .i64 0, .int .i64 0] 24 (0, 0)) (by (with_reducible repeat (first | refine blk_drewN ?_ _ | refine blk_drew ?_ | refine blk_alloc ?_ _)); exact BK363.out)) : gb374 ≠ gb363)); have n14_ := Aside0.mk ((by rw [hg]; exact Nat.ne_of_lt (IsS105.lt (show IsS105 w _ g367 t364 t372 t373 from by repeat (first | (with_reducible first | exact HI367.out | apply IsS105.alloc | apply IsS105.drewN | apply IsS105.drew | apply IsS105.set_1 | apply IsS105.set_2 | refine IsS105.far ?_ NB367_361.out _ | refine IsS105.far ?_ NB367_362.out _ | refine IsS105.far ?_ NB367_363.out _) | exact HI367.out))) : g367 ≠ gb374)); have n15_ := Aside0.mk ((by rw [hg]; exact Nat.ne_of_gt (IsS105.lt (show IsS105 w _ g367 t364 t372 t373 from by repeat (first | (with_reducible first | exact HI367.out | apply IsS105.alloc | apply IsS105.drewN | apply IsS105.drew | apply IsS105.set_1 | apply IsS105.set_2 | refine IsS105.far ?_ NB367_361.out _ | refine IsS105.far ?_ NB367_362.out _ | refine IsS105.far ?_ NB367_363.out _) | exact HI367.out))) : gb374 ≠ g367)); clear BK361; clear BK362; clear BK363; clear HI367; clear HB; have BK361 := n0_; have BK362 := n1_; have BK363 := n2_; have HI367 := n3_; have HB := n4_; have BK374 := n5_; have GW374 := n6_; have GE374 := n7_; have NB361_374 := n8_; have NB374_361 := n9_; have NB362_374 := n10_; have NB374_362 := n11_; have NB363_374 := n12_; have NB374_363 := n13_; have NB367_374 := n14_; have NB374_367 := n15_; clear n0_ n1_ n2_ n3_ n4_ n5_ n6_ n7_ n8_ n9_ n10_ n11_ n12_ n13_ n14_ n15_; clear hb hbox hg; have hnb20 := NB374_361.out; have hnc20 := NB361_374.out; have hnb21 := NB374_362.out; have hnc21 := NB362_374.out; have hnb22 := NB374_363.out; have hnc22 := NB363_374.out; have hnb23 := NB374_367.out; have hnc23 := NB367_374.out; have hcz24_0 : w19.cell? ⟨gb374, 0, none⟩ = some (.int .i64 0) := (blk_cell BK374.out 0).trans rfl; have hcz24_1 : w19.cell? ⟨gb374, 1, none⟩ = some (.int .i64 0) := (blk_cell BK374.out 1).trans rfl; have hcz24_2 : w19.cell? ⟨gb374, 2, none⟩ = some (.int .i64 0) := (blk_cell BK374.out 2).trans rfl; have hcz24_3 : w19.cell? ⟨gb374, 3, none⟩ = some (.int .i64 0) := (blk_cell BK374.out 3).trans rfl; have hfz24_0 := blk_frozen BK374.out 0; have hfz24_1 := blk_frozen BK374.out 1; have hfz24_2 := blk_frozen BK374.out 2; have hfz24_3 := blk_frozen BK374.out 3))
 refine Name.name_world ?_
 intro w25 hw25
 have n0_ : Aside0 (w25.heap[gb361]? = some (.cells #[.int .i64 0, .int .i64 0, .int .i64 0, .int .i64 0] 40 (0, 0))) := ⟨by rw [hw25]; (with_reducible repeat (first | refine blk_drewN ?_ _ | refine blk_drew ?_ | refine blk_alloc ?_ _)); refine blk_far ?_ NB361_374.out _; (with_reducible repeat (first | refine blk_drewN ?_ _ | refine blk_drew ?_ | refine blk_alloc ?_ _)); refine blk_far ?_ NB361_374.out _; (with_reducible repeat (first | refine blk_drewN ?_ _ | refine blk_drew ?_ | refine blk_alloc ?_ _)); refine blk_far ?_ NB361_374.out _; (with_reducible repeat (first | refine blk_drewN ?_ _ | refine blk_drew ?_ | refine blk_alloc ?_ _)); refine blk_far ?_ NB361_374.out _; (with_reducible repeat (first | refine blk_drewN ?_ _ | refine blk_drew ?_ | refine blk_alloc ?_ _)); exact BK361.out⟩
 have n1_ : Aside0 (w25.heap[gb362]? = some (.cells #[.int .i64 0, .int .i64 0, .int .i64 0, .int .i64 0] 40 (0, 0))) := ⟨by rw [hw25]; (with_reducible repeat (first | refine blk_drewN ?_ _ | refine blk_drew ?_ | refine blk_alloc ?_ _)); refine blk_far ?_ NB362_374.out _; (with_reducible repeat (first | refine blk_drewN ?_ _ | refine blk_drew ?_ | refine blk_alloc ?_ _)); refine blk_far ?_ NB362_374.out _; (with_reducible repeat (first | refine blk_drewN ?_ _ | refine blk_drew ?_ | refine blk_alloc ?_ _)); refine blk_far ?_ NB362_374.out _; (with_reducible repeat (first | refine blk_drewN ?_ _ | refine blk_drew ?_ | refine blk_alloc ?_ _)); refine blk_far ?_ NB362_374.out _; (with_reducible repeat (first | refine blk_drewN ?_ _ | refine blk_drew ?_ | refine blk_alloc ?_ _)); exact BK362.out⟩
 have n2_ : Aside0 (w25.heap[gb363]? = some (.cells #[.int .i64 0, .int .i64 0] 24 (0, 0))) := ⟨by rw [hw25]; (with_reducible repeat (first | refine blk_drewN ?_ _ | refine blk_drew ?_ | refine blk_alloc ?_ _)); refine blk_far ?_ NB363_374.out _; (with_reducible repeat (first | refine blk_drewN ?_ _ | refine blk_drew ?_ | refine blk_alloc ?_ _)); refine blk_far ?_ NB363_374.out _; (with_reducible repeat (first | refine blk_drewN ?_ _ | refine blk_drew ?_ | refine blk_alloc ?_ _)); refine blk_far ?_ NB363_374.out _; (with_reducible repeat (first | refine blk_drewN ?_ _ | refine blk_drew ?_ | refine blk_alloc ?_ _)); refine blk_far ?_ NB363_374.out _; (with_reducible repeat (first | refine blk_drewN ?_ _ | refine blk_drew ?_ | refine blk_alloc ?_ _)); exact BK363.out⟩
 have n3_ : Aside0 (w25.heap[gb374]? = some (.cells #[.int .i64 t368, .int .i64 t371, .int .i64 0, .int .i64 0] 40 (0, 0))) := ⟨by rw [hw25]; (with_reducible repeat (first | refine blk_drewN ?_ _ | refine blk_drew ?_ | refine blk_alloc ?_ _)); refine blk_put (cs := #[.int .i64 t368, .int .i64 t371, .int .i64 0, .int .i64 0]) ?_ 3 _ rfl; (with_reducible repeat (first | refine blk_drewN ?_ _ | refine blk_drew ?_ | refine blk_alloc ?_ _)); refine blk_put (cs := #[.int .i64 t368, .int .i64 t371, .int .i64 0, .int .i64 0]) ?_ 2 _ rfl; (with_reducible repeat (first | refine blk_drewN ?_ _ | refine blk_drew ?_ | refine blk_alloc ?_ _)); refine blk_put (cs := #[.int .i64 t368, .int .i64 0, .int .i64 0, .int .i64 0]) ?_ 1 _ rfl; (with_reducible repeat (first | refine blk_drewN ?_ _ | refine blk_drew ?_ | refine blk_alloc ?_ _)); refine blk_put (cs := #[.int .i64 0, .int .i64 0, .int .i64 0, .int .i64 0]) ?_ 0 _ rfl; (with_reducible repeat (first | refine blk_drewN ?_ _ | refine blk_drew ?_ | refine blk_alloc ?_ _)); exact BK374.out⟩
 have n4_ : Aside0 (IsS105 w w25 g367 t364 t372 t373) := ⟨by rw [hw25]; repeat (first | (with_reducible first | exact HI367.out | apply IsS105.alloc | apply IsS105.drewN | apply IsS105.drew | apply IsS105.set_1 | apply IsS105.set_2 | refine IsS105.far ?_ NB367_361.out _ | refine IsS105.far ?_ NB367_362.out _ | refine IsS105.far ?_ NB367_363.out _ | refine IsS105.far ?_ NB367_374.out _) | exact HI367.out)⟩
 have n5_ : Aside0 (Below w.heap.size w w25) := ⟨by rw [hw25]; repeat (first | (with_reducible first | exact HB.out | apply below_alloc | apply pw_below_drewN | apply below_drew1 | refine below_set ?_ (IsS105.ge HI367.out) | refine below_set ?_ GE361.out | refine below_set ?_ GE362.out | refine below_set ?_ GE363.out | refine below_set ?_ GE374.out) | exact HB.out)⟩
 (try clear BK361)
 (try clear BK362)
 (try clear BK363)
 (try clear BK374)
 (try clear HI367)
 (try clear HB)
 clear hw25
 have BK361 := n0_
 have BK362 := n1_
 have BK363 := n2_
 have BK374 := n3_
 have HI367 := n4_
 have HB := n5_
 clear n0_ n1_ n2_ n3_ n4_ n5_
 have n0_ := Aside0.mk (blk_drew BK361.out)
 have n1_ := Aside0.mk (blk_drew BK362.out)
 have n2_ := Aside0.mk (blk_drew BK363.out)
 have n3_ := Aside0.mk (blk_drew BK374.out)
 have n4_ := Aside0.mk (IsS105.drew HI367.out)
 have n5_ := Aside0.mk (below_drew1 HB.out)
 clear BK361
 clear BK362
 clear BK363
 clear BK374
 clear HI367
 clear HB
 have BK361 := n0_
 have BK362 := n1_
 have BK363 := n2_
 have BK374 := n3_
 have HI367 := n4_
 have HB := n5_
 clear n0_ n1_ n2_ n3_ n4_ n5_
 refine start_ (n := 7) (S := fun w' => w'.cell? ⟨gb374, 0, none⟩ = some (.int .i64 t368) ∧ w'.cell? ⟨gb374, 1, none⟩ = some (.int .i64 t371) ∧ w'.cell? ⟨gb374, 2, none⟩ = some (.int .i64 0) ∧ w'.cell? ⟨gb374, 3, none⟩ = some (.int .i64 0)) (ds := [6]) #[false, false, false, false, false, false, false] (by kernel_rfl) rfl rfl ⟨(blk_cell BK374.out 0).trans rfl, (blk_cell BK374.out 1).trans rfl, (blk_cell BK374.out 2).trans rfl, (blk_cell BK374.out 3).trans rfl⟩ (fun hHeld => ?_)
 generalize w25.drew = w26 at BK361 BK362 BK363 BK374 HI367 HB hHeld ⊢
 refine pure_ (i := 0) (N := some 15) (v := ?_) (a' := ?_) #[true, false, false, false, false, false, false] rfl rfl (by kernel_rfl) (fun _ _ _ h => h) (Or.inl ⟨by rfl, ?_⟩) ?_ ?_
 rotate_left
 ·intro w'
  go_simp
  with_reducible rfl
 rotate_left
 ·simp only [Act.put, List.setIfInBounds_toArray, List.set_cons_zero, List.set_cons_succ, i64_w, i32_w]
  rfl
 refine pure_ (i := 2) (N := some 17) (v := ?_) (a' := ?_) #[true, false, true, false, false, false, false] rfl rfl (by kernel_rfl) (fun _ _ _ h => h) (Or.inl ⟨by rfl, ?_⟩) ?_ ?_
 rotate_left
 ·intro w'
  go_simp
  with_reducible rfl
 rotate_left
 ·simp only [Act.put, List.setIfInBounds_toArray, List.set_cons_zero, List.set_cons_succ, i64_w, i32_w]
  rfl
 refine take_ (i := 1) (N := some 16) (v := ?_) (a' := ?_) #[true, true, true, false, false, false, false] rfl rfl (by kernel_rfl) (fun _ _ _ h => h) (Or.inl ⟨by rfl, ?_⟩) hHeld ?_ ?_
 rotate_left
 ·rintro w' ⟨s0, s1, s2, s3⟩
  go_simp
  with_reducible rfl
 rotate_left
 ·simp only [Act.put, List.setIfInBounds_toArray, List.set_cons_zero, List.set_cons_succ, i64_w, i32_w]
  rfl
 refine one_ (i := 3) (N := some 18) #[true, true, true, true, false, false, false] rfl rfl (by kernel_rfl) (by decide) (fun K hK => ?_)
 refine goes_ Try.func79 (by kernel_rfl) rfl #[.pointer (some ⟨g367, 0, none⟩), .int .i64 9] (by rfl) rfl rfl (by (try simp only [List.map_toArray, List.map_cons, List.map_nil]); first | done | rfl | (simp only [List.length_drop, List.length_take]; rfl)) ?_
 with_reducible refine (spec_l01Below.calls g367 t364 t372 t373 9 t375 t376 t377 w _ ?side1 ?side2 A5.out).mono ?_
 (case side1 => repeat (first | (with_reducible first | exact HI367.out | apply IsS105.alloc | apply IsS105.drewN | apply IsS105.drew | apply IsS105.set_1 | apply IsS105.set_2 | refine IsS105.far ?_ NB367_361.out _ | refine IsS105.far ?_ NB367_362.out _ | refine IsS105.far ?_ NB367_363.out _ | refine IsS105.far ?_ NB367_374.out _) | exact HI367.out))
 (case side2 => repeat (first | (with_reducible first | exact HB.out | apply below_alloc | apply pw_below_drewN | apply below_drew1 | refine below_set ?_ (IsS105.ge HI367.out) | refine below_set ?_ GE361.out | refine below_set ?_ GE362.out | refine below_set ?_ GE363.out | refine below_set ?_ GE374.out) | exact HB.out))
 rintro e w27 ⟨rfl, hi, hb, hk⟩
 refine ⟨_, rfl, ?_⟩
 have n0_ := Aside0.mk (KeepBut.blk hk (g' := gb361) (o := .cells #[.int .i64 0, .int .i64 0, .int .i64 0, .int .i64 0] 40 (0, 0)) BK361.out NB361_367.out (by simp))
 have n1_ := Aside0.mk (KeepBut.blk hk (g' := gb362) (o := .cells #[.int .i64 0, .int .i64 0, .int .i64 0, .int .i64 0] 40 (0, 0)) BK362.out NB362_367.out (by simp))
 have n2_ := Aside0.mk (KeepBut.blk hk (g' := gb363) (o := .cells #[.int .i64 0, .int .i64 0] 24 (0, 0)) BK363.out NB363_367.out (by simp))
 have n3_ := Aside0.mk (KeepBut.blk hk (g' := gb374) (o := .cells #[.int .i64 t368, .int .i64 t371, .int .i64 0, .int .i64 0] 40 (0, 0)) BK374.out NB374_367.out (by simp))
 have n4_ := Aside0.mk (hb)
 have n5_ := Aside0.mk (hi)
 clear BK361
 clear BK362
 clear BK363
 clear BK374
 clear HB
 clear HI367
 have BK361 := n0_
 have BK362 := n1_
 have BK363 := n2_
 have BK374 := n3_
 have HB := n4_
 have HI367 := n5_
 clear n0_ n1_ n2_ n3_ n4_ n5_
 (try clear hb)
 (try clear hb2)
 (try clear hk)
 (try clear hi)
 refine hK.out _ _ ⟨(blk_cell BK374.out 0).trans rfl, (blk_cell BK374.out 1).trans rfl, (blk_cell BK374.out 2).trans rfl, (blk_cell BK374.out 3).trans rfl⟩ (fun hHeld => ?_)
 clear hK K
 refine norm_ (a' := ?_) ?_ ?_
 rotate_left
 ·show Act.put _ (some 18) _ = _
  simp only [Act.put, List.setIfInBounds_toArray, List.set_cons_zero, List.set_cons_succ, i64_w, i32_w]
  rfl
 refine pure_ (i := 4) (N := some 19) (v := ?_) (a' := ?_) #[true, true, true, true, true, false, false] rfl rfl (by kernel_rfl) (fun _ _ _ h => h) (Or.inl ⟨by rfl, ?_⟩) ?_ ?_
 rotate_left
 ·intro w'
  go_simp
  with_reducible rfl
 rotate_left
 ·simp only [Act.put, List.setIfInBounds_toArray, List.set_cons_zero, List.set_cons_succ, i64_w, i32_w]
  rfl
 refine pure_ (i := 5) (N := some 20) (v := ?_) (a' := ?_) #[true, true, true, true, true, true, false] rfl rfl (by kernel_rfl) (fun _ _ _ h => h) (Or.inl ⟨by rfl, ?_⟩) ?_ ?_
 rotate_left
 ·intro w'
  go_simp
  with_reducible rfl
 rotate_left
 ·simp only [Act.put, List.setIfInBounds_toArray, List.set_cons_zero, List.set_cons_succ, i64_w, i32_w]
  rfl
 refine last_ (i := 6) (N := none) #[true, true, true, true, true, true, true] rfl rfl (by kernel_rfl) (by decide) (fun K hK => ?_)
 have hs28 : w27.cell? ⟨gb374, 2, none⟩ = some (.int .i64 0) := (blk_cell BK374.out 2).trans rfl
 have hfs28 := blk_frozen BK374.out 2
 have hns28_0 := NB361_374.out
 have hns28_1 := NB362_374.out
 have hns28_2 := NB363_374.out
 have hms28_0 := NB374_361.out
 have hms28_1 := NB374_362.out
 have hms28_2 := NB374_363.out
 refine skip_ (w1 := ?_) ?hw ?hn ?_ ?_; (case hw => kernel_rfl); (case hn => kernel_rfl)
 rotate_left
 ·go_simp
  rfl
 refine hK.out _ _ ?_
 clear hK K
 refine done_ (by kernel_rfl) ?_
 try go_wp2
 refine Name.name_world ?_
 intro w29 hw29
 have n0_ : Aside0 (w29.heap[gb361]? = some (.cells #[.int .i64 0, .int .i64 0, .int .i64 0, .int .i64 0] 40 (0, 0))) := ⟨by rw [hw29]; (with_reducible repeat (first | refine blk_drewN ?_ _ | refine blk_drew ?_ | refine blk_alloc ?_ _)); refine blk_far ?_ NB361_374.out _; (with_reducible repeat (first | refine blk_drewN ?_ _ | refine blk_drew ?_ | refine blk_alloc ?_ _)); exact BK361.out⟩
 have n1_ : Aside0 (w29.heap[gb362]? = some (.cells #[.int .i64 0, .int .i64 0, .int .i64 0, .int .i64 0] 40 (0, 0))) := ⟨by rw [hw29]; (with_reducible repeat (first | refine blk_drewN ?_ _ | refine blk_drew ?_ | refine blk_alloc ?_ _)); refine blk_far ?_ NB362_374.out _; (with_reducible repeat (first | refine blk_drewN ?_ _ | refine blk_drew ?_ | refine blk_alloc ?_ _)); exact BK362.out⟩
 have n2_ : Aside0 (w29.heap[gb363]? = some (.cells #[.int .i64 0, .int .i64 0] 24 (0, 0))) := ⟨by rw [hw29]; (with_reducible repeat (first | refine blk_drewN ?_ _ | refine blk_drew ?_ | refine blk_alloc ?_ _)); refine blk_far ?_ NB363_374.out _; (with_reducible repeat (first | refine blk_drewN ?_ _ | refine blk_drew ?_ | refine blk_alloc ?_ _)); exact BK363.out⟩
 have n3_ : Aside0 (w29.heap[gb374]? = some (.cells #[.int .i64 t368, .int .i64 t371, .int .i64 (wrap64 (t368 + t375)), .int .i64 0] 40 (0, 0))) := ⟨by rw [hw29]; (with_reducible repeat (first | refine blk_drewN ?_ _ | refine blk_drew ?_ | refine blk_alloc ?_ _)); refine blk_put (cs := #[.int .i64 t368, .int .i64 t371, .int .i64 0, .int .i64 0]) ?_ 2 _ rfl; (with_reducible repeat (first | refine blk_drewN ?_ _ | refine blk_drew ?_ | refine blk_alloc ?_ _)); exact BK374.out⟩
 have n4_ : Aside0 (IsS105 w w29 g367 t364 t376 t377) := ⟨by rw [hw29]; repeat (first | (with_reducible first | exact HI367.out | apply IsS105.alloc | apply IsS105.drewN | apply IsS105.drew | apply IsS105.set_1 | apply IsS105.set_2 | refine IsS105.far ?_ NB367_361.out _ | refine IsS105.far ?_ NB367_362.out _ | refine IsS105.far ?_ NB367_363.out _ | refine IsS105.far ?_ NB367_374.out _) | exact HI367.out)⟩
 have n5_ : Aside0 (Below w.heap.size w w29) := ⟨by rw [hw29]; repeat (first | (with_reducible first | exact HB.out | apply below_alloc | apply pw_below_drewN | apply below_drew1 | refine below_set ?_ (IsS105.ge HI367.out) | refine below_set ?_ GE361.out | refine below_set ?_ GE362.out | refine below_set ?_ GE363.out | refine below_set ?_ GE374.out) | exact HB.out)⟩
 (try clear BK361)
 (try clear BK362)
 (try clear BK363)
 (try clear BK374)
 (try clear HI367)
 (try clear HB)
 clear hw29
 have BK361 := n0_
 have BK362 := n1_
 have BK363 := n2_
 have BK374 := n3_
 have HI367 := n4_
 have HB := n5_
 clear n0_ n1_ n2_ n3_ n4_ n5_
 have n0_ := Aside0.mk (blk_drew BK361.out)
 have n1_ := Aside0.mk (blk_drew BK362.out)
 have n2_ := Aside0.mk (blk_drew BK363.out)
 have n3_ := Aside0.mk (blk_drew BK374.out)
 have n4_ := Aside0.mk (IsS105.drew HI367.out)
 have n5_ := Aside0.mk (below_drew1 HB.out)
 clear BK361
 clear BK362
 clear BK363
 clear BK374
 clear HI367
 clear HB
 have BK361 := n0_
 have BK362 := n1_
 have BK363 := n2_
 have BK374 := n3_
 have HI367 := n4_
 have HB := n5_
 clear n0_ n1_ n2_ n3_ n4_ n5_
 refine start_ (n := 7) (S := fun w' => w'.cell? ⟨gb374, 0, none⟩ = some (.int .i64 t368) ∧ w'.cell? ⟨gb374, 1, none⟩ = some (.int .i64 t371) ∧ w'.cell? ⟨gb374, 2, none⟩ = some (.int .i64 (wrap64 (t368 + t375))) ∧ w'.cell? ⟨gb374, 3, none⟩ = some (.int .i64 0)) (ds := [6]) #[false, false, false, false, false, false, false] (by kernel_rfl) rfl rfl ⟨(blk_cell BK374.out 0).trans rfl, (blk_cell BK374.out 1).trans rfl, (blk_cell BK374.out 2).trans rfl, (blk_cell BK374.out 3).trans rfl⟩ (fun hHeld => ?_)
 generalize w29.drew = w30 at BK361 BK362 BK363 BK374 HI367 HB hHeld ⊢
 refine pure_ (i := 0) (N := some 21) (v := ?_) (a' := ?_) #[true, false, false, false, false, false, false] rfl rfl (by kernel_rfl) (fun _ _ _ h => h) (Or.inl ⟨by rfl, ?_⟩) ?_ ?_
 rotate_left
 ·intro w'
  go_simp
  with_reducible rfl
 rotate_left
 ·simp only [Act.put, List.setIfInBounds_toArray, List.set_cons_zero, List.set_cons_succ, i64_w, i32_w]
  rfl
 refine pure_ (i := 2) (N := some 23) (v := ?_) (a' := ?_) #[true, false, true, false, false, false, false] rfl rfl (by kernel_rfl) (fun _ _ _ h => h) (Or.inl ⟨by rfl, ?_⟩) ?_ ?_
 rotate_left
 ·intro w'
  go_simp
  with_reducible rfl
 rotate_left
 ·simp only [Act.put, List.setIfInBounds_toArray, List.set_cons_zero, List.set_cons_succ, i64_w, i32_w]
  rfl
 refine take_ (i := 1) (N := some 22) (v := ?_) (a' := ?_) #[true, true, true, false, false, false, false] rfl rfl (by kernel_rfl) (fun _ _ _ h => h) (Or.inl ⟨by rfl, ?_⟩) hHeld ?_ ?_
 rotate_left
 ·rintro w' ⟨s0, s1, s2, s3⟩
  go_simp
  with_reducible rfl
 rotate_left
 ·simp only [Act.put, List.setIfInBounds_toArray, List.set_cons_zero, List.set_cons_succ, i64_w, i32_w]
  rfl
 refine one_ (i := 3) (N := some 24) #[true, true, true, true, false, false, false] rfl rfl (by kernel_rfl) (by decide) (fun K hK => ?_)
 refine goes_ Try.func79 (by kernel_rfl) rfl #[.pointer (some ⟨g367, 0, none⟩), .int .i64 9] (by rfl) rfl rfl (by (try simp only [List.map_toArray, List.map_cons, List.map_nil]); first | done | rfl | (simp only [List.length_drop, List.length_take]; rfl)) ?_
 with_reducible refine (spec_l01Below.calls g367 t364 t376 t377 9 t378 t379 t380 w _ ?side1 ?side2 A6.out).mono ?_
 (case side1 => repeat (first | (with_reducible first | exact HI367.out | apply IsS105.alloc | apply IsS105.drewN | apply IsS105.drew | apply IsS105.set_1 | apply IsS105.set_2 | refine IsS105.far ?_ NB367_361.out _ | refine IsS105.far ?_ NB367_362.out _ | refine IsS105.far ?_ NB367_363.out _ | refine IsS105.far ?_ NB367_374.out _) | exact HI367.out))
 (case side2 => repeat (first | (with_reducible first | exact HB.out | apply below_alloc | apply pw_below_drewN | apply below_drew1 | refine below_set ?_ (IsS105.ge HI367.out) | refine below_set ?_ GE361.out | refine below_set ?_ GE362.out | refine below_set ?_ GE363.out | refine below_set ?_ GE374.out) | exact HB.out))
 rintro e w31 ⟨rfl, hi, hb, hk⟩
 refine ⟨_, rfl, ?_⟩
 have n0_ := Aside0.mk (KeepBut.blk hk (g' := gb361) (o := .cells #[.int .i64 0, .int .i64 0, .int .i64 0, .int .i64 0] 40 (0, 0)) BK361.out NB361_367.out (by simp))
 have n1_ := Aside0.mk (KeepBut.blk hk (g' := gb362) (o := .cells #[.int .i64 0, .int .i64 0, .int .i64 0, .int .i64 0] 40 (0, 0)) BK362.out NB362_367.out (by simp))
 have n2_ := Aside0.mk (KeepBut.blk hk (g' := gb363) (o := .cells #[.int .i64 0, .int .i64 0] 24 (0, 0)) BK363.out NB363_367.out (by simp))
 have n3_ := Aside0.mk (KeepBut.blk hk (g' := gb374) (o := .cells #[.int .i64 t368, .int .i64 t371, .int .i64 (wrap64 (t368 + t375)), .int .i64 0] 40 (0, 0)) BK374.out NB374_367.out (by simp))
 have n4_ := Aside0.mk (hb)
 have n5_ := Aside0.mk (hi)
 clear BK361
 clear BK362
 clear BK363
 clear BK374
 clear HB
 clear HI367
 have BK361 := n0_
 have BK362 := n1_
 have BK363 := n2_
 have BK374 := n3_
 have HB := n4_
 have HI367 := n5_
 clear n0_ n1_ n2_ n3_ n4_ n5_
 (try clear hb)
 (try clear hb2)
 (try clear hk)
 (try clear hi)
 refine hK.out _ _ ⟨(blk_cell BK374.out 0).trans rfl, (blk_cell BK374.out 1).trans rfl, (blk_cell BK374.out 2).trans rfl, (blk_cell BK374.out 3).trans rfl⟩ (fun hHeld => ?_)
 clear hK K
 refine norm_ (a' := ?_) ?_ ?_
 rotate_left
 ·show Act.put _ (some 24) _ = _
  simp only [Act.put, List.setIfInBounds_toArray, List.set_cons_zero, List.set_cons_succ, i64_w, i32_w]
  rfl
 refine pure_ (i := 4) (N := some 25) (v := ?_) (a' := ?_) #[true, true, true, true, true, false, false] rfl rfl (by kernel_rfl) (fun _ _ _ h => h) (Or.inl ⟨by rfl, ?_⟩) ?_ ?_
 rotate_left
 ·intro w'
  go_simp
  with_reducible rfl
 rotate_left
 ·simp only [Act.put, List.setIfInBounds_toArray, List.set_cons_zero, List.set_cons_succ, i64_w, i32_w]
  rfl
 refine pure_ (i := 5) (N := some 26) (v := ?_) (a' := ?_) #[true, true, true, true, true, true, false] rfl rfl (by kernel_rfl) (fun _ _ _ h => h) (Or.inl ⟨by rfl, ?_⟩) ?_ ?_
 rotate_left
 ·intro w'
  go_simp
  with_reducible rfl
 rotate_left
 ·simp only [Act.put, List.setIfInBounds_toArray, List.set_cons_zero, List.set_cons_succ, i64_w, i32_w]
  rfl
 refine last_ (i := 6) (N := none) #[true, true, true, true, true, true, true] rfl rfl (by kernel_rfl) (by decide) (fun K hK => ?_)
 have hs32 : w31.cell? ⟨gb374, 3, none⟩ = some (.int .i64 0) := (blk_cell BK374.out 3).trans rfl
 have hfs32 := blk_frozen BK374.out 3
 have hns32_0 := NB361_374.out
 have hns32_1 := NB362_374.out
 have hns32_2 := NB363_374.out
 have hms32_0 := NB374_361.out
 have hms32_1 := NB374_362.out
 have hms32_2 := NB374_363.out
 refine skip_ (w1 := ?_) ?hw ?hn ?_ ?_; (case hw => kernel_rfl); (case hn => kernel_rfl)
 rotate_left
 ·go_simp
  rfl
 refine hK.out _ _ ?_
 clear hK K
 refine done_ (by kernel_rfl) ?_
 try go_wp2_with (first | ((with_reducible refine gate_callee (f := 79) rfl ?_); refine goesL_ (some 28) rfl rfl Try.func79 (by kernel_rfl) rfl #[.pointer (some ⟨g367, 0, none⟩), .int .i64 9] rfl (by (try simp only [List.map_toArray, List.map_cons, List.map_nil]); first | done | rfl | (simp only [List.length_drop, List.length_take]; rfl)) ?_; (with_reducible refine (spec_l01Below.calls g367 t364 t379 t380 9 t381 t382 t383 w _ ?side1 ?side2 A7.out).mono ?_); (case side1 => repeat (first | (with_reducible first | exact HI367.out | apply IsS105.alloc | apply IsS105.drewN | apply IsS105.drew | apply IsS105.set_1 | apply IsS105.set_2 | refine IsS105.far ?_ NB367_361.out _ | refine IsS105.far ?_ NB367_362.out _ | refine IsS105.far ?_ NB367_363.out _ | refine IsS105.far ?_ NB367_374.out _) | exact HI367.out)); (case side2 => repeat (first | (with_reducible first | exact HB.out | apply below_alloc | apply pw_below_drewN | apply below_drew1 | refine below_set ?_ (IsS105.ge HI367.out) | refine below_set ?_ GE361.out | refine below_set ?_ GE362.out | refine below_set ?_ GE363.out | refine below_set ?_ GE374.out) | exact HB.out)); rintro e w33 ⟨rfl, hi, hb, hk⟩; refine ⟨_, rfl, ?_⟩; have n0_ := Aside0.mk (KeepBut.blk hk (g' := gb361) (o := .cells #[.int .i64 0, .int .i64 0, .int .i64 0, .int .i64 0] 40 (0, 0)) (by (with_reducible repeat (first | refine blk_drewN ?_ _ | refine blk_drew ?_ | refine blk_alloc ?_ _)); refine blk_far ?_ NB361_374.out _; (with_reducible repeat (first | refine blk_drewN ?_ _ | refine blk_drew ?_ | refine blk_alloc ?_ _)); exact BK361.out) NB361_367.out (by simp)); have n1_ := Aside0.mk (KeepBut.blk hk (g' := gb362) (o := .cells #[.int .i64 0, .int .i64 0, .int .i64 0, .int .i64 0] 40 (0, 0)) (by (with_reducible repeat (first | refine blk_drewN ?_ _ | refine blk_drew ?_ | refine blk_alloc ?_ _)); refine blk_far ?_ NB362_374.out _; (with_reducible repeat (first | refine blk_drewN ?_ _ | refine blk_drew ?_ | refine blk_alloc ?_ _)); exact BK362.out) NB362_367.out (by simp)); have n2_ := Aside0.mk (KeepBut.blk hk (g' := gb363) (o := .cells #[.int .i64 0, .int .i64 0] 24 (0, 0)) (by (with_reducible repeat (first | refine blk_drewN ?_ _ | refine blk_drew ?_ | refine blk_alloc ?_ _)); refine blk_far ?_ NB363_374.out _; (with_reducible repeat (first | refine blk_drewN ?_ _ | refine blk_drew ?_ | refine blk_alloc ?_ _)); exact BK363.out) NB363_367.out (by simp)); have n3_ := Aside0.mk (KeepBut.blk hk (g' := gb374) (o := .cells #[.int .i64 t368, .int .i64 t371, .int .i64 (wrap64 (t368 + t375)), .int .i64 (wrap64 (t371 + t378))] 40 (0, 0)) (by (with_reducible repeat (first | refine blk_drewN ?_ _ | refine blk_drew ?_ | refine blk_alloc ?_ _)); refine blk_put (cs := #[.int .i64 t368, .int .i64 t371, .int .i64 (wrap64 (t368 + t375)), .int .i64 0]) ?_ 3 _ rfl; (with_reducible repeat (first | refine blk_drewN ?_ _ | refine blk_drew ?_ | refine blk_alloc ?_ _)); exact BK374.out) NB374_367.out (by simp)); have n4_ := Aside0.mk (hb); have n5_ := Aside0.mk (hi); clear BK361; clear BK362; clear BK363; clear BK374; clear HB; clear HI367; have BK361 := n0_; have BK362 := n1_; have BK363 := n2_; have BK374 := n3_; have HB := n4_; have HI367 := n5_; clear n0_ n1_ n2_ n3_ n4_ n5_; (try clear hb); (try clear hb2); (try clear hk); (try clear hi)) | ((with_reducible refine gate_callee (f := 79) rfl ?_); refine goesL_ (some 30) rfl rfl Try.func79 (by kernel_rfl) rfl #[.pointer (some ⟨g367, 0, none⟩), .int .i64 9] rfl (by (try simp only [List.map_toArray, List.map_cons, List.map_nil]); first | done | rfl | (simp only [List.length_drop, List.length_take]; rfl)) ?_; (with_reducible refine (spec_l01Below.calls g367 t364 t382 t383 9 t384 t385 t386 w _ ?side1 ?side2 A8.out).mono ?_); (case side1 => repeat (first | (with_reducible first | exact HI367.out | apply IsS105.alloc | apply IsS105.drewN | apply IsS105.drew | apply IsS105.set_1 | apply IsS105.set_2 | refine IsS105.far ?_ NB367_361.out _ | refine IsS105.far ?_ NB367_362.out _ | refine IsS105.far ?_ NB367_363.out _ | refine IsS105.far ?_ NB367_374.out _) | exact HI367.out)); (case side2 => repeat (first | (with_reducible first | exact HB.out | apply below_alloc | apply pw_below_drewN | apply below_drew1 | refine below_set ?_ (IsS105.ge HI367.out) | refine below_set ?_ GE361.out | refine below_set ?_ GE362.out | refine below_set ?_ GE363.out | refine below_set ?_ GE374.out) | exact HB.out)); rintro e w34 ⟨rfl, hi, hb, hk⟩; refine ⟨_, rfl, ?_⟩; have n0_ := Aside0.mk (KeepBut.blk hk (g' := gb361) (o := .cells #[.int .i64 0, .int .i64 0, .int .i64 0, .int .i64 0] 40 (0, 0)) (by (with_reducible repeat (first | refine blk_drewN ?_ _ | refine blk_drew ?_ | refine blk_alloc ?_ _)); exact BK361.out) NB361_367.out (by simp)); have n1_ := Aside0.mk (KeepBut.blk hk (g' := gb362) (o := .cells #[.int .i64 0, .int .i64 0, .int .i64 0, .int .i64 0] 40 (0, 0)) (by (with_reducible repeat (first | refine blk_drewN ?_ _ | refine blk_drew ?_ | refine blk_alloc ?_ _)); exact BK362.out) NB362_367.out (by simp)); have n2_ := Aside0.mk (KeepBut.blk hk (g' := gb363) (o := .cells #[.int .i64 0, .int .i64 0] 24 (0, 0)) (by (with_reducible repeat (first | refine blk_drewN ?_ _ | refine blk_drew ?_ | refine blk_alloc ?_ _)); exact BK363.out) NB363_367.out (by simp)); have n3_ := Aside0.mk (KeepBut.blk hk (g' := gb374) (o := .cells #[.int .i64 t368, .int .i64 t371, .int .i64 (wrap64 (t368 + t375)), .int .i64 (wrap64 (t371 + t378))] 40 (0, 0)) (by (with_reducible repeat (first | refine blk_drewN ?_ _ | refine blk_drew ?_ | refine blk_alloc ?_ _)); exact BK374.out) NB374_367.out (by simp)); have n4_ := Aside0.mk (hb); have n5_ := Aside0.mk (hi); clear BK361; clear BK362; clear BK363; clear BK374; clear HB; clear HI367; have BK361 := n0_; have BK362 := n1_; have BK363 := n2_; have BK374 := n3_; have HB := n4_; have HI367 := n5_; clear n0_ n1_ n2_ n3_ n4_ n5_; (try clear hb); (try clear hb2); (try clear hk); (try clear hi)) | ((with_reducible refine gate_dst (N := 7) rfl ?_); refine box_event ?hg (N := 7) ?hd (cs := #[.int .i64 0, .int .i64 0, .int .i64 0, .int .i64 0]) (t := 40) ?hr ?_; (case hd => rfl); (case hg => rfl); (case hr => first | (go_simp; done) | (go_simp; rfl)); intro gb387 hg w35 hbox hb; have n0_ := Aside0.mk (blk_below (g := gb361) (o := .cells #[.int .i64 0, .int .i64 0, .int .i64 0, .int .i64 0] 40 (0, 0)) (by (with_reducible repeat (first | refine blk_drewN ?_ _ | refine blk_drew ?_ | refine blk_alloc ?_ _)); exact BK361.out) hb); have n1_ := Aside0.mk (blk_below (g := gb362) (o := .cells #[.int .i64 0, .int .i64 0, .int .i64 0, .int .i64 0] 40 (0, 0)) (by (with_reducible repeat (first | refine blk_drewN ?_ _ | refine blk_drew ?_ | refine blk_alloc ?_ _)); exact BK362.out) hb); have n2_ := Aside0.mk (blk_below (g := gb363) (o := .cells #[.int .i64 0, .int .i64 0] 24 (0, 0)) (by (with_reducible repeat (first | refine blk_drewN ?_ _ | refine blk_drew ?_ | refine blk_alloc ?_ _)); exact BK363.out) hb); have n3_ := Aside0.mk (IsS105.below (by repeat (first | (with_reducible first | exact HI367.out | apply IsS105.alloc | apply IsS105.drewN | apply IsS105.drew | apply IsS105.set_1 | apply IsS105.set_2 | refine IsS105.far ?_ NB367_361.out _ | refine IsS105.far ?_ NB367_362.out _ | refine IsS105.far ?_ NB367_363.out _ | refine IsS105.far ?_ NB367_374.out _) | exact HI367.out)) hb); have n4_ := Aside0.mk (blk_below (g := gb374) (o := .cells #[.int .i64 t368, .int .i64 t371, .int .i64 (wrap64 (t368 + t375)), .int .i64 (wrap64 (t371 + t378))] 40 (0, 0)) (by (with_reducible repeat (first | refine blk_drewN ?_ _ | refine blk_drew ?_ | refine blk_alloc ?_ _)); exact BK374.out) hb); have n5_ := Aside0.mk (below_step (by repeat (first | (with_reducible first | exact HB.out | apply below_alloc | apply pw_below_drewN | apply below_drew1 | refine below_set ?_ (IsS105.ge HI367.out) | refine below_set ?_ GE361.out | refine below_set ?_ GE362.out | refine below_set ?_ GE363.out | refine below_set ?_ GE374.out) | exact HB.out)) hb); have n6_ := Aside0.mk (hbox); have n7_ := Aside0.mk ((by rw [hg]; exact (below_size (by repeat (first | (with_reducible first | exact HB.out | apply below_alloc | apply pw_below_drewN | apply below_drew1 | refine below_set ?_ (IsS105.ge HI367.out) | refine below_set ?_ GE361.out | refine below_set ?_ GE362.out | refine below_set ?_ GE363.out | refine below_set ?_ GE374.out) | exact HB.out))) : w.heap.size ≤ gb387)); have n8_ := Aside0.mk ((by rw [hg]; exact (below_size (by repeat (first | (with_reducible first | exact HB.out | apply below_alloc | apply pw_below_drewN | apply below_drew1 | refine below_set ?_ (IsS105.ge HI367.out) | refine below_set ?_ GE361.out | refine below_set ?_ GE362.out | refine below_set ?_ GE363.out | refine below_set ?_ GE374.out) | exact HB.out))) : w.heap.size ≤ gb387)); have n9_ := Aside0.mk ((by rw [hg]; exact Nat.ne_of_lt (blk_lt (g := gb361) (o := .cells #[.int .i64 0, .int .i64 0, .int .i64 0, .int .i64 0] 40 (0, 0)) (by (with_reducible repeat (first | refine blk_drewN ?_ _ | refine blk_drew ?_ | refine blk_alloc ?_ _)); exact BK361.out)) : gb361 ≠ gb387)); have n10_ := Aside0.mk ((by rw [hg]; exact Nat.ne_of_gt (blk_lt (g := gb361) (o := .cells #[.int .i64 0, .int .i64 0, .int .i64 0, .int .i64 0] 40 (0, 0)) (by (with_reducible repeat (first | refine blk_drewN ?_ _ | refine blk_drew ?_ | refine blk_alloc ?_ _)); exact BK361.out)) : gb387 ≠ gb361)); have n11_ := Aside0.mk ((by rw [hg]; exact Nat.ne_of_lt (blk_lt (g := gb362) (o := .cells #[.int .i64 0, .int .i64 0, .int .i64 0, .int .i64 0] 40 (0, 0)) (by (with_reducible repeat (first | refine blk_drewN ?_ _ | refine blk_drew ?_ | refine blk_alloc ?_ _)); exact BK362.out)) : gb362 ≠ gb387)); have n12_ := Aside0.mk ((by rw [hg]; exact Nat.ne_of_gt (blk_lt (g := gb362) (o := .cells #[.int .i64 0, .int .i64 0, .int .i64 0, .int .i64 0] 40 (0, 0)) (by (with_reducible repeat (first | refine blk_drewN ?_ _ | refine blk_drew ?_ | refine blk_alloc ?_ _)); exact BK362.out)) : gb387 ≠ gb362)); have n13_ := Aside0.mk ((by rw [hg]; exact Nat.ne_of_lt (blk_lt (g := gb363) (o := .cells #[.int .i64 0, .int .i64 0] 24 (0, 0)) (by (with_reducible repeat (first | refine blk_drewN ?_ _ | refine blk_drew ?_ | refine blk_alloc ?_ _)); exact BK363.out)) : gb363 ≠ gb387)); have n14_ := Aside0.mk ((by rw [hg]; exact Nat.ne_of_gt (blk_lt (g := gb363) (o := .cells #[.int .i64 0, .int .i64 0] 24 (0, 0)) (by (with_reducible repeat (first | refine blk_drewN ?_ _ | refine blk_drew ?_ | refine blk_alloc ?_ _)); exact BK363.out)) : gb387 ≠ gb363)); have n15_ := Aside0.mk ((by rw [hg]; exact Nat.ne_of_lt (blk_lt (g := gb374) (o := .cells #[.int .i64 t368, .int .i64 t371, .int .i64 (wrap64 (t368 + t375)), .int .i64 (wrap64 (t371 + t378))] 40 (0, 0)) (by (with_reducible repeat (first | refine blk_drewN ?_ _ | refine blk_drew ?_ | refine blk_alloc ?_ _)); exact BK374.out)) : gb374 ≠ gb387)); have n16_ := Aside0.mk ((by rw [hg]; exact Nat.ne_of_gt (blk_lt (g := gb374) (o := .cells #[.int .i64 t368, .int .i64 t371, .int .i64 (wrap64 (t368 + t375)), .int .i64 (wrap64 (t371 + t378))] 40 (0, 0)) (by (with_reducible repeat (first | refine blk_drewN ?_ _ | refine blk_drew ?_ | refine blk_alloc ?_ _)); exact BK374.out)) : gb387 ≠ gb374)); have n17_ := Aside0.mk ((by rw [hg]; exact Nat.ne_of_lt (IsS105.lt (show IsS105 w _ g367 t364 t385 t386 from by repeat (first | (with_reducible first | exact HI367.out | apply IsS105.alloc | apply IsS105.drewN | apply IsS105.drew | apply IsS105.set_1 | apply IsS105.set_2 | refine IsS105.far ?_ NB367_361.out _ | refine IsS105.far ?_ NB367_362.out _ | refine IsS105.far ?_ NB367_363.out _ | refine IsS105.far ?_ NB367_374.out _) | exact HI367.out))) : g367 ≠ gb387)); have n18_ := Aside0.mk ((by rw [hg]; exact Nat.ne_of_gt (IsS105.lt (show IsS105 w _ g367 t364 t385 t386 from by repeat (first | (with_reducible first | exact HI367.out | apply IsS105.alloc | apply IsS105.drewN | apply IsS105.drew | apply IsS105.set_1 | apply IsS105.set_2 | refine IsS105.far ?_ NB367_361.out _ | refine IsS105.far ?_ NB367_362.out _ | refine IsS105.far ?_ NB367_363.out _ | refine IsS105.far ?_ NB367_374.out _) | exact HI367.out))) : gb387 ≠ g367)); clear BK361; clear BK362; clear BK363; clear HI367; clear BK374; clear HB; have BK361 := n0_; have BK362 := n1_; have BK363 := n2_; have HI367 := n3_; have BK374 := n4_; have HB := n5_; have BK387 := n6_; have GW387 := n7_; have GE387 := n8_; have NB361_387 := n9_; have NB387_361 := n10_; have NB362_387 := n11_; have NB387_362 := n12_; have NB363_387 := n13_; have NB387_363 := n14_; have NB374_387 := n15_; have NB387_374 := n16_; have NB367_387 := n17_; have NB387_367 := n18_; clear n0_ n1_ n2_ n3_ n4_ n5_ n6_ n7_ n8_ n9_ n10_ n11_ n12_ n13_ n14_ n15_ n16_ n17_ n18_; clear hb hbox hg; have hnb36 := NB387_361.out; have hnc36 := NB361_387.out; have hnb37 := NB387_362.out; have hnc37 := NB362_387.out; have hnb38 := NB387_363.out; have hnc38 := NB363_387.out; have hnb39 := NB387_374.out; have hnc39 := NB374_387.out; have hnb40 := NB387_367.out; have hnc40 := NB367_387.out; have hcz41_0 : w35.cell? ⟨gb387, 0, none⟩ = some (.int .i64 0) := (blk_cell BK387.out 0).trans rfl; have hcz41_1 : w35.cell? ⟨gb387, 1, none⟩ = some (.int .i64 0) := (blk_cell BK387.out 1).trans rfl; have hcz41_2 : w35.cell? ⟨gb387, 2, none⟩ = some (.int .i64 0) := (blk_cell BK387.out 2).trans rfl; have hcz41_3 : w35.cell? ⟨gb387, 3, none⟩ = some (.int .i64 0) := (blk_cell BK387.out 3).trans rfl; have hfz41_0 := blk_frozen BK387.out 0; have hfz41_1 := blk_frozen BK387.out 1; have hfz41_2 := blk_frozen BK387.out 2; have hfz41_3 := blk_frozen BK387.out 3))
 refine Name.name_world ?_
 intro w42 hw42
 have n0_ : Aside0 (w42.heap[gb361]? = some (.cells #[.int .i64 0, .int .i64 0, .int .i64 0, .int .i64 0] 40 (0, 0))) := ⟨by rw [hw42]; (with_reducible repeat (first | refine blk_drewN ?_ _ | refine blk_drew ?_ | refine blk_alloc ?_ _)); refine blk_far ?_ NB361_387.out _; (with_reducible repeat (first | refine blk_drewN ?_ _ | refine blk_drew ?_ | refine blk_alloc ?_ _)); refine blk_far ?_ NB361_387.out _; (with_reducible repeat (first | refine blk_drewN ?_ _ | refine blk_drew ?_ | refine blk_alloc ?_ _)); refine blk_far ?_ NB361_387.out _; (with_reducible repeat (first | refine blk_drewN ?_ _ | refine blk_drew ?_ | refine blk_alloc ?_ _)); refine blk_far ?_ NB361_387.out _; (with_reducible repeat (first | refine blk_drewN ?_ _ | refine blk_drew ?_ | refine blk_alloc ?_ _)); exact BK361.out⟩
 have n1_ : Aside0 (w42.heap[gb362]? = some (.cells #[.int .i64 0, .int .i64 0, .int .i64 0, .int .i64 0] 40 (0, 0))) := ⟨by rw [hw42]; (with_reducible repeat (first | refine blk_drewN ?_ _ | refine blk_drew ?_ | refine blk_alloc ?_ _)); refine blk_far ?_ NB362_387.out _; (with_reducible repeat (first | refine blk_drewN ?_ _ | refine blk_drew ?_ | refine blk_alloc ?_ _)); refine blk_far ?_ NB362_387.out _; (with_reducible repeat (first | refine blk_drewN ?_ _ | refine blk_drew ?_ | refine blk_alloc ?_ _)); refine blk_far ?_ NB362_387.out _; (with_reducible repeat (first | refine blk_drewN ?_ _ | refine blk_drew ?_ | refine blk_alloc ?_ _)); refine blk_far ?_ NB362_387.out _; (with_reducible repeat (first | refine blk_drewN ?_ _ | refine blk_drew ?_ | refine blk_alloc ?_ _)); exact BK362.out⟩
 have n2_ : Aside0 (w42.heap[gb363]? = some (.cells #[.int .i64 0, .int .i64 0] 24 (0, 0))) := ⟨by rw [hw42]; (with_reducible repeat (first | refine blk_drewN ?_ _ | refine blk_drew ?_ | refine blk_alloc ?_ _)); refine blk_far ?_ NB363_387.out _; (with_reducible repeat (first | refine blk_drewN ?_ _ | refine blk_drew ?_ | refine blk_alloc ?_ _)); refine blk_far ?_ NB363_387.out _; (with_reducible repeat (first | refine blk_drewN ?_ _ | refine blk_drew ?_ | refine blk_alloc ?_ _)); refine blk_far ?_ NB363_387.out _; (with_reducible repeat (first | refine blk_drewN ?_ _ | refine blk_drew ?_ | refine blk_alloc ?_ _)); refine blk_far ?_ NB363_387.out _; (with_reducible repeat (first | refine blk_drewN ?_ _ | refine blk_drew ?_ | refine blk_alloc ?_ _)); exact BK363.out⟩
 have n3_ : Aside0 (w42.heap[gb374]? = some (.cells #[.int .i64 t368, .int .i64 t371, .int .i64 (wrap64 (t368 + t375)), .int .i64 (wrap64 (t371 + t378))] 40 (0, 0))) := ⟨by rw [hw42]; (with_reducible repeat (first | refine blk_drewN ?_ _ | refine blk_drew ?_ | refine blk_alloc ?_ _)); refine blk_far ?_ NB374_387.out _; (with_reducible repeat (first | refine blk_drewN ?_ _ | refine blk_drew ?_ | refine blk_alloc ?_ _)); refine blk_far ?_ NB374_387.out _; (with_reducible repeat (first | refine blk_drewN ?_ _ | refine blk_drew ?_ | refine blk_alloc ?_ _)); refine blk_far ?_ NB374_387.out _; (with_reducible repeat (first | refine blk_drewN ?_ _ | refine blk_drew ?_ | refine blk_alloc ?_ _)); refine blk_far ?_ NB374_387.out _; (with_reducible repeat (first | refine blk_drewN ?_ _ | refine blk_drew ?_ | refine blk_alloc ?_ _)); exact BK374.out⟩
 have n4_ : Aside0 (w42.heap[gb387]? = some (.cells #[.int .i64 t381, .int .i64 t384, .int .i64 0, .int .i64 0] 40 (0, 0))) := ⟨by rw [hw42]; (with_reducible repeat (first | refine blk_drewN ?_ _ | refine blk_drew ?_ | refine blk_alloc ?_ _)); refine blk_put (cs := #[.int .i64 t381, .int .i64 t384, .int .i64 0, .int .i64 0]) ?_ 3 _ rfl; (with_reducible repeat (first | refine blk_drewN ?_ _ | refine blk_drew ?_ | refine blk_alloc ?_ _)); refine blk_put (cs := #[.int .i64 t381, .int .i64 t384, .int .i64 0, .int .i64 0]) ?_ 2 _ rfl; (with_reducible repeat (first | refine blk_drewN ?_ _ | refine blk_drew ?_ | refine blk_alloc ?_ _)); refine blk_put (cs := #[.int .i64 t381, .int .i64 0, .int .i64 0, .int .i64 0]) ?_ 1 _ rfl; (with_reducible repeat (first | refine blk_drewN ?_ _ | refine blk_drew ?_ | refine blk_alloc ?_ _)); refine blk_put (cs := #[.int .i64 0, .int .i64 0, .int .i64 0, .int .i64 0]) ?_ 0 _ rfl; (with_reducible repeat (first | refine blk_drewN ?_ _ | refine blk_drew ?_ | refine blk_alloc ?_ _)); exact BK387.out⟩
 have n5_ : Aside0 (IsS105 w w42 g367 t364 t385 t386) := ⟨by rw [hw42]; repeat (first | (with_reducible first | exact HI367.out | apply IsS105.alloc | apply IsS105.drewN | apply IsS105.drew | apply IsS105.set_1 | apply IsS105.set_2 | refine IsS105.far ?_ NB367_361.out _ | refine IsS105.far ?_ NB367_362.out _ | refine IsS105.far ?_ NB367_363.out _ | refine IsS105.far ?_ NB367_374.out _ | refine IsS105.far ?_ NB367_387.out _) | exact HI367.out)⟩
 have n6_ : Aside0 (Below w.heap.size w w42) := ⟨by rw [hw42]; repeat (first | (with_reducible first | exact HB.out | apply below_alloc | apply pw_below_drewN | apply below_drew1 | refine below_set ?_ (IsS105.ge HI367.out) | refine below_set ?_ GE361.out | refine below_set ?_ GE362.out | refine below_set ?_ GE363.out | refine below_set ?_ GE374.out | refine below_set ?_ GE387.out) | exact HB.out)⟩
 (try clear BK361)
 (try clear BK362)
 (try clear BK363)
 (try clear BK374)
 (try clear BK387)
 (try clear HI367)
 (try clear HB)
 clear hw42
 have BK361 := n0_
 have BK362 := n1_
 have BK363 := n2_
 have BK374 := n3_
 have BK387 := n4_
 have HI367 := n5_
 have HB := n6_
 clear n0_ n1_ n2_ n3_ n4_ n5_ n6_
 have n0_ := Aside0.mk (blk_drew BK361.out)
 have n1_ := Aside0.mk (blk_drew BK362.out)
 have n2_ := Aside0.mk (blk_drew BK363.out)
 have n3_ := Aside0.mk (blk_drew BK374.out)
 have n4_ := Aside0.mk (blk_drew BK387.out)
 have n5_ := Aside0.mk (IsS105.drew HI367.out)
 have n6_ := Aside0.mk (below_drew1 HB.out)
 clear BK361
 clear BK362
 clear BK363
 clear BK374
 clear BK387
 clear HI367
 clear HB
 have BK361 := n0_
 have BK362 := n1_
 have BK363 := n2_
 have BK374 := n3_
 have BK387 := n4_
 have HI367 := n5_
 have HB := n6_
 clear n0_ n1_ n2_ n3_ n4_ n5_ n6_
 refine start_ (n := 7) (S := fun w' => w'.cell? ⟨gb387, 0, none⟩ = some (.int .i64 t381) ∧ w'.cell? ⟨gb387, 1, none⟩ = some (.int .i64 t384) ∧ w'.cell? ⟨gb387, 2, none⟩ = some (.int .i64 0) ∧ w'.cell? ⟨gb387, 3, none⟩ = some (.int .i64 0)) (ds := [6]) #[false, false, false, false, false, false, false] (by kernel_rfl) rfl rfl ⟨(blk_cell BK387.out 0).trans rfl, (blk_cell BK387.out 1).trans rfl, (blk_cell BK387.out 2).trans rfl, (blk_cell BK387.out 3).trans rfl⟩ (fun hHeld => ?_)
 generalize w42.drew = w43 at BK361 BK362 BK363 BK374 BK387 HI367 HB hHeld ⊢
 refine pure_ (i := 0) (N := some 32) (v := ?_) (a' := ?_) #[true, false, false, false, false, false, false] rfl rfl (by kernel_rfl) (fun _ _ _ h => h) (Or.inl ⟨by rfl, ?_⟩) ?_ ?_
 rotate_left
 ·intro w'
  go_simp
  with_reducible rfl
 rotate_left
 ·simp only [Act.put, List.setIfInBounds_toArray, List.set_cons_zero, List.set_cons_succ, i64_w, i32_w]
  rfl
 refine pure_ (i := 2) (N := some 34) (v := ?_) (a' := ?_) #[true, false, true, false, false, false, false] rfl rfl (by kernel_rfl) (fun _ _ _ h => h) (Or.inl ⟨by rfl, ?_⟩) ?_ ?_
 rotate_left
 ·intro w'
  go_simp
  with_reducible rfl
 rotate_left
 ·simp only [Act.put, List.setIfInBounds_toArray, List.set_cons_zero, List.set_cons_succ, i64_w, i32_w]
  rfl
 refine take_ (i := 1) (N := some 33) (v := ?_) (a' := ?_) #[true, true, true, false, false, false, false] rfl rfl (by kernel_rfl) (fun _ _ _ h => h) (Or.inl ⟨by rfl, ?_⟩) hHeld ?_ ?_
 rotate_left
 ·rintro w' ⟨s0, s1, s2, s3⟩
  go_simp
  with_reducible rfl
 rotate_left
 ·simp only [Act.put, List.setIfInBounds_toArray, List.set_cons_zero, List.set_cons_succ, i64_w, i32_w]
  rfl
 refine one_ (i := 3) (N := some 35) #[true, true, true, true, false, false, false] rfl rfl (by kernel_rfl) (by decide) (fun K hK => ?_)
 refine goes_ Try.func79 (by kernel_rfl) rfl #[.pointer (some ⟨g367, 0, none⟩), .int .i64 9] (by rfl) rfl rfl (by (try simp only [List.map_toArray, List.map_cons, List.map_nil]); first | done | rfl | (simp only [List.length_drop, List.length_take]; rfl)) ?_
 with_reducible refine (spec_l01Below.calls g367 t364 t385 t386 9 t388 t389 t390 w _ ?side1 ?side2 A9.out).mono ?_
 (case side1 => repeat (first | (with_reducible first | exact HI367.out | apply IsS105.alloc | apply IsS105.drewN | apply IsS105.drew | apply IsS105.set_1 | apply IsS105.set_2 | refine IsS105.far ?_ NB367_361.out _ | refine IsS105.far ?_ NB367_362.out _ | refine IsS105.far ?_ NB367_363.out _ | refine IsS105.far ?_ NB367_374.out _ | refine IsS105.far ?_ NB367_387.out _) | exact HI367.out))
 (case side2 => repeat (first | (with_reducible first | exact HB.out | apply below_alloc | apply pw_below_drewN | apply below_drew1 | refine below_set ?_ (IsS105.ge HI367.out) | refine below_set ?_ GE361.out | refine below_set ?_ GE362.out | refine below_set ?_ GE363.out | refine below_set ?_ GE374.out | refine below_set ?_ GE387.out) | exact HB.out))
 rintro e w44 ⟨rfl, hi, hb, hk⟩
 refine ⟨_, rfl, ?_⟩
 have n0_ := Aside0.mk (KeepBut.blk hk (g' := gb361) (o := .cells #[.int .i64 0, .int .i64 0, .int .i64 0, .int .i64 0] 40 (0, 0)) BK361.out NB361_367.out (by simp))
 have n1_ := Aside0.mk (KeepBut.blk hk (g' := gb362) (o := .cells #[.int .i64 0, .int .i64 0, .int .i64 0, .int .i64 0] 40 (0, 0)) BK362.out NB362_367.out (by simp))
 have n2_ := Aside0.mk (KeepBut.blk hk (g' := gb363) (o := .cells #[.int .i64 0, .int .i64 0] 24 (0, 0)) BK363.out NB363_367.out (by simp))
 have n3_ := Aside0.mk (KeepBut.blk hk (g' := gb374) (o := .cells #[.int .i64 t368, .int .i64 t371, .int .i64 (wrap64 (t368 + t375)), .int .i64 (wrap64 (t371 + t378))] 40 (0, 0)) BK374.out NB374_367.out (by simp))
 have n4_ := Aside0.mk (KeepBut.blk hk (g' := gb387) (o := .cells #[.int .i64 t381, .int .i64 t384, .int .i64 0, .int .i64 0] 40 (0, 0)) BK387.out NB387_367.out (by simp))
 have n5_ := Aside0.mk (hb)
 have n6_ := Aside0.mk (hi)
 clear BK361
 clear BK362
 clear BK363
 clear BK374
 clear BK387
 clear HB
 clear HI367
 have BK361 := n0_
 have BK362 := n1_
 have BK363 := n2_
 have BK374 := n3_
 have BK387 := n4_
 have HB := n5_
 have HI367 := n6_
 clear n0_ n1_ n2_ n3_ n4_ n5_ n6_
 (try clear hb)
 (try clear hb2)
 (try clear hk)
 (try clear hi)
 refine hK.out _ _ ⟨(blk_cell BK387.out 0).trans rfl, (blk_cell BK387.out 1).trans rfl, (blk_cell BK387.out 2).trans rfl, (blk_cell BK387.out 3).trans rfl⟩ (fun hHeld => ?_)
 clear hK K
 refine norm_ (a' := ?_) ?_ ?_
 rotate_left
 ·show Act.put _ (some 35) _ = _
  simp only [Act.put, List.setIfInBounds_toArray, List.set_cons_zero, List.set_cons_succ, i64_w, i32_w]
  rfl
 refine pure_ (i := 4) (N := some 36) (v := ?_) (a' := ?_) #[true, true, true, true, true, false, false] rfl rfl (by kernel_rfl) (fun _ _ _ h => h) (Or.inl ⟨by rfl, ?_⟩) ?_ ?_
 rotate_left
 ·intro w'
  go_simp
  with_reducible rfl
 rotate_left
 ·simp only [Act.put, List.setIfInBounds_toArray, List.set_cons_zero, List.set_cons_succ, i64_w, i32_w]
  rfl
 refine pure_ (i := 5) (N := some 37) (v := ?_) (a' := ?_) #[true, true, true, true, true, true, false] rfl rfl (by kernel_rfl) (fun _ _ _ h => h) (Or.inl ⟨by rfl, ?_⟩) ?_ ?_
 rotate_left
 ·intro w'
  go_simp
  with_reducible rfl
 rotate_left
 ·simp only [Act.put, List.setIfInBounds_toArray, List.set_cons_zero, List.set_cons_succ, i64_w, i32_w]
  rfl
 refine last_ (i := 6) (N := none) #[true, true, true, true, true, true, true] rfl rfl (by kernel_rfl) (by decide) (fun K hK => ?_)
 have hs45 : w44.cell? ⟨gb387, 2, none⟩ = some (.int .i64 0) := (blk_cell BK387.out 2).trans rfl
 have hfs45 := blk_frozen BK387.out 2
 have hns45_0 := NB361_387.out
 have hns45_1 := NB362_387.out
 have hns45_2 := NB363_387.out
 have hns45_3 := NB374_387.out
 have hms45_0 := NB387_361.out
 have hms45_1 := NB387_362.out
 have hms45_2 := NB387_363.out
 have hms45_3 := NB387_374.out
 refine skip_ (w1 := ?_) ?hw ?hn ?_ ?_; (case hw => kernel_rfl); (case hn => kernel_rfl)
 rotate_left
 ·go_simp
  rfl
 refine hK.out _ _ ?_
 clear hK K
 refine done_ (by kernel_rfl) ?_
 try go_wp2
 refine Name.name_world ?_
 intro w46 hw46
 have n0_ : Aside0 (w46.heap[gb361]? = some (.cells #[.int .i64 0, .int .i64 0, .int .i64 0, .int .i64 0] 40 (0, 0))) := ⟨by rw [hw46]; (with_reducible repeat (first | refine blk_drewN ?_ _ | refine blk_drew ?_ | refine blk_alloc ?_ _)); refine blk_far ?_ NB361_387.out _; (with_reducible repeat (first | refine blk_drewN ?_ _ | refine blk_drew ?_ | refine blk_alloc ?_ _)); exact BK361.out⟩
 have n1_ : Aside0 (w46.heap[gb362]? = some (.cells #[.int .i64 0, .int .i64 0, .int .i64 0, .int .i64 0] 40 (0, 0))) := ⟨by rw [hw46]; (with_reducible repeat (first | refine blk_drewN ?_ _ | refine blk_drew ?_ | refine blk_alloc ?_ _)); refine blk_far ?_ NB362_387.out _; (with_reducible repeat (first | refine blk_drewN ?_ _ | refine blk_drew ?_ | refine blk_alloc ?_ _)); exact BK362.out⟩
 have n2_ : Aside0 (w46.heap[gb363]? = some (.cells #[.int .i64 0, .int .i64 0] 24 (0, 0))) := ⟨by rw [hw46]; (with_reducible repeat (first | refine blk_drewN ?_ _ | refine blk_drew ?_ | refine blk_alloc ?_ _)); refine blk_far ?_ NB363_387.out _; (with_reducible repeat (first | refine blk_drewN ?_ _ | refine blk_drew ?_ | refine blk_alloc ?_ _)); exact BK363.out⟩
 have n3_ : Aside0 (w46.heap[gb374]? = some (.cells #[.int .i64 t368, .int .i64 t371, .int .i64 (wrap64 (t368 + t375)), .int .i64 (wrap64 (t371 + t378))] 40 (0, 0))) := ⟨by rw [hw46]; (with_reducible repeat (first | refine blk_drewN ?_ _ | refine blk_drew ?_ | refine blk_alloc ?_ _)); refine blk_far ?_ NB374_387.out _; (with_reducible repeat (first | refine blk_drewN ?_ _ | refine blk_drew ?_ | refine blk_alloc ?_ _)); exact BK374.out⟩
 have n4_ : Aside0 (w46.heap[gb387]? = some (.cells #[.int .i64 t381, .int .i64 t384, .int .i64 (wrap64 (t381 + t388)), .int .i64 0] 40 (0, 0))) := ⟨by rw [hw46]; (with_reducible repeat (first | refine blk_drewN ?_ _ | refine blk_drew ?_ | refine blk_alloc ?_ _)); refine blk_put (cs := #[.int .i64 t381, .int .i64 t384, .int .i64 0, .int .i64 0]) ?_ 2 _ rfl; (with_reducible repeat (first | refine blk_drewN ?_ _ | refine blk_drew ?_ | refine blk_alloc ?_ _)); exact BK387.out⟩
 have n5_ : Aside0 (IsS105 w w46 g367 t364 t389 t390) := ⟨by rw [hw46]; repeat (first | (with_reducible first | exact HI367.out | apply IsS105.alloc | apply IsS105.drewN | apply IsS105.drew | apply IsS105.set_1 | apply IsS105.set_2 | refine IsS105.far ?_ NB367_361.out _ | refine IsS105.far ?_ NB367_362.out _ | refine IsS105.far ?_ NB367_363.out _ | refine IsS105.far ?_ NB367_374.out _ | refine IsS105.far ?_ NB367_387.out _) | exact HI367.out)⟩
 have n6_ : Aside0 (Below w.heap.size w w46) := ⟨by rw [hw46]; repeat (first | (with_reducible first | exact HB.out | apply below_alloc | apply pw_below_drewN | apply below_drew1 | refine below_set ?_ (IsS105.ge HI367.out) | refine below_set ?_ GE361.out | refine below_set ?_ GE362.out | refine below_set ?_ GE363.out | refine below_set ?_ GE374.out | refine below_set ?_ GE387.out) | exact HB.out)⟩
 (try clear BK361)
 (try clear BK362)
 (try clear BK363)
 (try clear BK374)
 (try clear BK387)
 (try clear HI367)
 (try clear HB)
 clear hw46
 have BK361 := n0_
 have BK362 := n1_
 have BK363 := n2_
 have BK374 := n3_
 have BK387 := n4_
 have HI367 := n5_
 have HB := n6_
 clear n0_ n1_ n2_ n3_ n4_ n5_ n6_
 have n0_ := Aside0.mk (blk_drew BK361.out)
 have n1_ := Aside0.mk (blk_drew BK362.out)
 have n2_ := Aside0.mk (blk_drew BK363.out)
 have n3_ := Aside0.mk (blk_drew BK374.out)
 have n4_ := Aside0.mk (blk_drew BK387.out)
 have n5_ := Aside0.mk (IsS105.drew HI367.out)
 have n6_ := Aside0.mk (below_drew1 HB.out)
 clear BK361
 clear BK362
 clear BK363
 clear BK374
 clear BK387
 clear HI367
 clear HB
 have BK361 := n0_
 have BK362 := n1_
 have BK363 := n2_
 have BK374 := n3_
 have BK387 := n4_
 have HI367 := n5_
 have HB := n6_
 clear n0_ n1_ n2_ n3_ n4_ n5_ n6_
 refine start_ (n := 7) (S := fun w' => w'.cell? ⟨gb387, 0, none⟩ = some (.int .i64 t381) ∧ w'.cell? ⟨gb387, 1, none⟩ = some (.int .i64 t384) ∧ w'.cell? ⟨gb387, 2, none⟩ = some (.int .i64 (wrap64 (t381 + t388))) ∧ w'.cell? ⟨gb387, 3, none⟩ = some (.int .i64 0)) (ds := [6]) #[false, false, false, false, false, false, false] (by kernel_rfl) rfl rfl ⟨(blk_cell BK387.out 0).trans rfl, (blk_cell BK387.out 1).trans rfl, (blk_cell BK387.out 2).trans rfl, (blk_cell BK387.out 3).trans rfl⟩ (fun hHeld => ?_)
 generalize w46.drew = w47 at BK361 BK362 BK363 BK374 BK387 HI367 HB hHeld ⊢
 refine pure_ (i := 0) (N := some 38) (v := ?_) (a' := ?_) #[true, false, false, false, false, false, false] rfl rfl (by kernel_rfl) (fun _ _ _ h => h) (Or.inl ⟨by rfl, ?_⟩) ?_ ?_
 rotate_left
 ·intro w'
  go_simp
  with_reducible rfl
 rotate_left
 ·simp only [Act.put, List.setIfInBounds_toArray, List.set_cons_zero, List.set_cons_succ, i64_w, i32_w]
  rfl
 refine pure_ (i := 2) (N := some 40) (v := ?_) (a' := ?_) #[true, false, true, false, false, false, false] rfl rfl (by kernel_rfl) (fun _ _ _ h => h) (Or.inl ⟨by rfl, ?_⟩) ?_ ?_
 rotate_left
 ·intro w'
  go_simp
  with_reducible rfl
 rotate_left
 ·simp only [Act.put, List.setIfInBounds_toArray, List.set_cons_zero, List.set_cons_succ, i64_w, i32_w]
  rfl
 refine take_ (i := 1) (N := some 39) (v := ?_) (a' := ?_) #[true, true, true, false, false, false, false] rfl rfl (by kernel_rfl) (fun _ _ _ h => h) (Or.inl ⟨by rfl, ?_⟩) hHeld ?_ ?_
 rotate_left
 ·rintro w' ⟨s0, s1, s2, s3⟩
  go_simp
  with_reducible rfl
 rotate_left
 ·simp only [Act.put, List.setIfInBounds_toArray, List.set_cons_zero, List.set_cons_succ, i64_w, i32_w]
  rfl
 refine one_ (i := 3) (N := some 41) #[true, true, true, true, false, false, false] rfl rfl (by kernel_rfl) (by decide) (fun K hK => ?_)
 refine goes_ Try.func79 (by kernel_rfl) rfl #[.pointer (some ⟨g367, 0, none⟩), .int .i64 9] (by rfl) rfl rfl (by (try simp only [List.map_toArray, List.map_cons, List.map_nil]); first | done | rfl | (simp only [List.length_drop, List.length_take]; rfl)) ?_
 with_reducible refine (spec_l01Below.calls g367 t364 t389 t390 9 t391 t392 t393 w _ ?side1 ?side2 A10.out).mono ?_
 (case side1 => repeat (first | (with_reducible first | exact HI367.out | apply IsS105.alloc | apply IsS105.drewN | apply IsS105.drew | apply IsS105.set_1 | apply IsS105.set_2 | refine IsS105.far ?_ NB367_361.out _ | refine IsS105.far ?_ NB367_362.out _ | refine IsS105.far ?_ NB367_363.out _ | refine IsS105.far ?_ NB367_374.out _ | refine IsS105.far ?_ NB367_387.out _) | exact HI367.out))
 (case side2 => repeat (first | (with_reducible first | exact HB.out | apply below_alloc | apply pw_below_drewN | apply below_drew1 | refine below_set ?_ (IsS105.ge HI367.out) | refine below_set ?_ GE361.out | refine below_set ?_ GE362.out | refine below_set ?_ GE363.out | refine below_set ?_ GE374.out | refine below_set ?_ GE387.out) | exact HB.out))
 rintro e w48 ⟨rfl, hi, hb, hk⟩
 refine ⟨_, rfl, ?_⟩
 have n0_ := Aside0.mk (KeepBut.blk hk (g' := gb361) (o := .cells #[.int .i64 0, .int .i64 0, .int .i64 0, .int .i64 0] 40 (0, 0)) BK361.out NB361_367.out (by simp))
 have n1_ := Aside0.mk (KeepBut.blk hk (g' := gb362) (o := .cells #[.int .i64 0, .int .i64 0, .int .i64 0, .int .i64 0] 40 (0, 0)) BK362.out NB362_367.out (by simp))
 have n2_ := Aside0.mk (KeepBut.blk hk (g' := gb363) (o := .cells #[.int .i64 0, .int .i64 0] 24 (0, 0)) BK363.out NB363_367.out (by simp))
 have n3_ := Aside0.mk (KeepBut.blk hk (g' := gb374) (o := .cells #[.int .i64 t368, .int .i64 t371, .int .i64 (wrap64 (t368 + t375)), .int .i64 (wrap64 (t371 + t378))] 40 (0, 0)) BK374.out NB374_367.out (by simp))
 have n4_ := Aside0.mk (KeepBut.blk hk (g' := gb387) (o := .cells #[.int .i64 t381, .int .i64 t384, .int .i64 (wrap64 (t381 + t388)), .int .i64 0] 40 (0, 0)) BK387.out NB387_367.out (by simp))
 have n5_ := Aside0.mk (hb)
 have n6_ := Aside0.mk (hi)
 clear BK361
 clear BK362
 clear BK363
 clear BK374
 clear BK387
 clear HB
 clear HI367
 have BK361 := n0_
 have BK362 := n1_
 have BK363 := n2_
 have BK374 := n3_
 have BK387 := n4_
 have HB := n5_
 have HI367 := n6_
 clear n0_ n1_ n2_ n3_ n4_ n5_ n6_
 (try clear hb)
 (try clear hb2)
 (try clear hk)
 (try clear hi)
 refine hK.out _ _ ⟨(blk_cell BK387.out 0).trans rfl, (blk_cell BK387.out 1).trans rfl, (blk_cell BK387.out 2).trans rfl, (blk_cell BK387.out 3).trans rfl⟩ (fun hHeld => ?_)
 clear hK K
 refine norm_ (a' := ?_) ?_ ?_
 rotate_left
 ·show Act.put _ (some 41) _ = _
  simp only [Act.put, List.setIfInBounds_toArray, List.set_cons_zero, List.set_cons_succ, i64_w, i32_w]
  rfl
 refine pure_ (i := 4) (N := some 42) (v := ?_) (a' := ?_) #[true, true, true, true, true, false, false] rfl rfl (by kernel_rfl) (fun _ _ _ h => h) (Or.inl ⟨by rfl, ?_⟩) ?_ ?_
 rotate_left
 ·intro w'
  go_simp
  with_reducible rfl
 rotate_left
 ·simp only [Act.put, List.setIfInBounds_toArray, List.set_cons_zero, List.set_cons_succ, i64_w, i32_w]
  rfl
 refine pure_ (i := 5) (N := some 43) (v := ?_) (a' := ?_) #[true, true, true, true, true, true, false] rfl rfl (by kernel_rfl) (fun _ _ _ h => h) (Or.inl ⟨by rfl, ?_⟩) ?_ ?_
 rotate_left
 ·intro w'
  go_simp
  with_reducible rfl
 rotate_left
 ·simp only [Act.put, List.setIfInBounds_toArray, List.set_cons_zero, List.set_cons_succ, i64_w, i32_w]
  rfl
 refine last_ (i := 6) (N := none) #[true, true, true, true, true, true, true] rfl rfl (by kernel_rfl) (by decide) (fun K hK => ?_)
 have hs49 : w48.cell? ⟨gb387, 3, none⟩ = some (.int .i64 0) := (blk_cell BK387.out 3).trans rfl
 have hfs49 := blk_frozen BK387.out 3
 have hns49_0 := NB361_387.out
 have hns49_1 := NB362_387.out
 have hns49_2 := NB363_387.out
 have hns49_3 := NB374_387.out
 have hms49_0 := NB387_361.out
 have hms49_1 := NB387_362.out
 have hms49_2 := NB387_363.out
 have hms49_3 := NB387_374.out
 refine skip_ (w1 := ?_) ?hw ?hn ?_ ?_; (case hw => kernel_rfl); (case hn => kernel_rfl)
 rotate_left
 ·go_simp
  rfl
 refine hK.out _ _ ?_
 clear hK K
 refine done_ (by kernel_rfl) ?_
 try go_wp2
 refine Name.name_world ?_
 intro w50 hw50
 have n0_ : Aside0 (w50.heap[gb361]? = some (.cells #[.int .i64 0, .int .i64 0, .int .i64 0, .int .i64 0] 40 (0, 0))) := ⟨by rw [hw50]; (with_reducible repeat (first | refine blk_drewN ?_ _ | refine blk_drew ?_ | refine blk_alloc ?_ _)); refine blk_far ?_ NB361_387.out _; (with_reducible repeat (first | refine blk_drewN ?_ _ | refine blk_drew ?_ | refine blk_alloc ?_ _)); exact BK361.out⟩
 have n1_ : Aside0 (w50.heap[gb362]? = some (.cells #[.int .i64 0, .int .i64 0, .int .i64 0, .int .i64 0] 40 (0, 0))) := ⟨by rw [hw50]; (with_reducible repeat (first | refine blk_drewN ?_ _ | refine blk_drew ?_ | refine blk_alloc ?_ _)); refine blk_far ?_ NB362_387.out _; (with_reducible repeat (first | refine blk_drewN ?_ _ | refine blk_drew ?_ | refine blk_alloc ?_ _)); exact BK362.out⟩
 have n2_ : Aside0 (w50.heap[gb363]? = some (.cells #[.int .i64 0, .int .i64 0] 24 (0, 0))) := ⟨by rw [hw50]; (with_reducible repeat (first | refine blk_drewN ?_ _ | refine blk_drew ?_ | refine blk_alloc ?_ _)); refine blk_far ?_ NB363_387.out _; (with_reducible repeat (first | refine blk_drewN ?_ _ | refine blk_drew ?_ | refine blk_alloc ?_ _)); exact BK363.out⟩
 have n3_ : Aside0 (w50.heap[gb374]? = some (.cells #[.int .i64 t368, .int .i64 t371, .int .i64 (wrap64 (t368 + t375)), .int .i64 (wrap64 (t371 + t378))] 40 (0, 0))) := ⟨by rw [hw50]; (with_reducible repeat (first | refine blk_drewN ?_ _ | refine blk_drew ?_ | refine blk_alloc ?_ _)); refine blk_far ?_ NB374_387.out _; (with_reducible repeat (first | refine blk_drewN ?_ _ | refine blk_drew ?_ | refine blk_alloc ?_ _)); exact BK374.out⟩
 have n4_ : Aside0 (w50.heap[gb387]? = some (.cells #[.int .i64 t381, .int .i64 t384, .int .i64 (wrap64 (t381 + t388)), .int .i64 (wrap64 (t384 + t391))] 40 (0, 0))) := ⟨by rw [hw50]; (with_reducible repeat (first | refine blk_drewN ?_ _ | refine blk_drew ?_ | refine blk_alloc ?_ _)); refine blk_put (cs := #[.int .i64 t381, .int .i64 t384, .int .i64 (wrap64 (t381 + t388)), .int .i64 0]) ?_ 3 _ rfl; (with_reducible repeat (first | refine blk_drewN ?_ _ | refine blk_drew ?_ | refine blk_alloc ?_ _)); exact BK387.out⟩
 have n5_ : Aside0 (IsS105 w w50 g367 t364 t392 t393) := ⟨by rw [hw50]; repeat (first | (with_reducible first | exact HI367.out | apply IsS105.alloc | apply IsS105.drewN | apply IsS105.drew | apply IsS105.set_1 | apply IsS105.set_2 | refine IsS105.far ?_ NB367_361.out _ | refine IsS105.far ?_ NB367_362.out _ | refine IsS105.far ?_ NB367_363.out _ | refine IsS105.far ?_ NB367_374.out _ | refine IsS105.far ?_ NB367_387.out _) | exact HI367.out)⟩
 have n6_ : Aside0 (Below w.heap.size w w50) := ⟨by rw [hw50]; repeat (first | (with_reducible first | exact HB.out | apply below_alloc | apply pw_below_drewN | apply below_drew1 | refine below_set ?_ (IsS105.ge HI367.out) | refine below_set ?_ GE361.out | refine below_set ?_ GE362.out | refine below_set ?_ GE363.out | refine below_set ?_ GE374.out | refine below_set ?_ GE387.out) | exact HB.out)⟩
 (try clear BK361)
 (try clear BK362)
 (try clear BK363)
 (try clear BK374)
 (try clear BK387)
 (try clear HI367)
 (try clear HB)
 clear hw50
 have BK361 := n0_
 have BK362 := n1_
 have BK363 := n2_
 have BK374 := n3_
 have BK387 := n4_
 have HI367 := n5_
 have HB := n6_
 clear n0_ n1_ n2_ n3_ n4_ n5_ n6_
 have n0_ := Aside0.mk (blk_drew BK361.out)
 have n1_ := Aside0.mk (blk_drew BK362.out)
 have n2_ := Aside0.mk (blk_drew BK363.out)
 have n3_ := Aside0.mk (blk_drew BK374.out)
 have n4_ := Aside0.mk (blk_drew BK387.out)
 have n5_ := Aside0.mk (IsS105.drew HI367.out)
 have n6_ := Aside0.mk (below_drew1 HB.out)
 clear BK361
 clear BK362
 clear BK363
 clear BK374
 clear BK387
 clear HI367
 clear HB
 have BK361 := n0_
 have BK362 := n1_
 have BK363 := n2_
 have BK374 := n3_
 have BK387 := n4_
 have HI367 := n5_
 have HB := n6_
 clear n0_ n1_ n2_ n3_ n4_ n5_ n6_
 refine start_ (n := 10) (S := fun w' => w'.cell? ⟨gb374, 0, none⟩ = some (.int .i64 t368) ∧ w'.cell? ⟨gb374, 1, none⟩ = some (.int .i64 t371) ∧ w'.cell? ⟨gb374, 2, none⟩ = some (.int .i64 (wrap64 (t368 + t375))) ∧ w'.cell? ⟨gb374, 3, none⟩ = some (.int .i64 (wrap64 (t371 + t378))) ∧ w'.cell? ⟨gb387, 0, none⟩ = some (.int .i64 t381) ∧ w'.cell? ⟨gb387, 1, none⟩ = some (.int .i64 t384) ∧ w'.cell? ⟨gb387, 2, none⟩ = some (.int .i64 (wrap64 (t381 + t388))) ∧ w'.cell? ⟨gb387, 3, none⟩ = some (.int .i64 (wrap64 (t384 + t391)))) (ds := []) #[false, false, false, false, false, false, false, false, false, false] (by kernel_rfl) rfl rfl ⟨(blk_cell BK374.out 0).trans rfl, (blk_cell BK374.out 1).trans rfl, (blk_cell BK374.out 2).trans rfl, (blk_cell BK374.out 3).trans rfl, (blk_cell BK387.out 0).trans rfl, (blk_cell BK387.out 1).trans rfl, (blk_cell BK387.out 2).trans rfl, (blk_cell BK387.out 3).trans rfl⟩ (fun hHeld => ?_); refine with_tabW spec_DrawBoxes.tab8 spec_DrawBoxes.bits8 (fun HT_ HW_ => ?_)
 generalize w50.drew = w51 at BK361 BK362 BK363 BK374 BK387 HI367 HB hHeld ⊢
 refine pure_ (i := 2) (N := some 46) (v := ?_) (a' := ?_) #[false, false, true, false, false, false, false, false, false, false] rfl rfl (any_of HT_.out (by kernel_rfl)) (fun _ _ _ h => h) (Or.inl ⟨by rfl, ?_⟩) ?_ ?_
 rotate_left
 ·intro w'
  go_simp
  with_reducible rfl
 rotate_left
 ·simp only [Act.put, List.setIfInBounds_toArray, List.set_cons_zero, List.set_cons_succ, i64_w, i32_w]
  rfl
 refine pure_ (i := 4) (N := some 48) (v := ?_) (a' := ?_) #[false, false, true, false, true, false, false, false, false, false] rfl rfl (any_of HT_.out (by kernel_rfl)) (fun _ _ _ h => h) (Or.inl ⟨by rfl, ?_⟩) ?_ ?_
 rotate_left
 ·intro w'
  go_simp
  with_reducible rfl
 rotate_left
 ·simp only [Act.put, List.setIfInBounds_toArray, List.set_cons_zero, List.set_cons_succ, i64_w, i32_w]
  rfl
 refine take_ (i := 0) (N := some 44) (v := ?_) (a' := ?_) #[true, false, true, false, true, false, false, false, false, false] rfl rfl (take_ofW HT_.out HW_.out (by kernel_rfl)) (fun _ _ _ h => h) (Or.inl ⟨by rfl, ?_⟩) hHeld ?_ ?_
 rotate_left
 ·rintro w' ⟨s0, s1, s2, s3, s4, s5, s6, s7⟩
  go_simp
  with_reducible rfl
 rotate_left
 ·simp only [Act.put, List.setIfInBounds_toArray, List.set_cons_zero, List.set_cons_succ, i64_w, i32_w]
  rfl
 refine take_ (i := 1) (N := some 45) (v := ?_) (a' := ?_) #[true, true, true, false, true, false, false, false, false, false] rfl rfl (take_ofW HT_.out HW_.out (by kernel_rfl)) (fun _ _ _ h => h) (Or.inl ⟨by rfl, ?_⟩) hHeld ?_ ?_
 rotate_left
 ·rintro w' ⟨s0, s1, s2, s3, s4, s5, s6, s7⟩
  go_simp
  with_reducible rfl
 rotate_left
 ·simp only [Act.put, List.setIfInBounds_toArray, List.set_cons_zero, List.set_cons_succ, i64_w, i32_w]
  rfl
 refine one_ (i := 3) (N := some 47) #[true, true, true, true, true, false, false, false, false, false] rfl rfl (one_of HT_.out (by kernel_rfl)) (by decide) (fun K hK => ?_)
 refine goes_ Try.func79 (by kernel_rfl) rfl #[.pointer (some ⟨g367, 0, none⟩), .int .i64 18] (by rfl) rfl rfl (by (try simp only [List.map_toArray, List.map_cons, List.map_nil]); first | done | rfl | (simp only [List.length_drop, List.length_take]; rfl)) ?_
 with_reducible refine (spec_l01Below.calls g367 t364 t392 t393 18 t394 t395 t396 w _ ?side1 ?side2 A11.out).mono ?_
 (case side1 => repeat (first | (with_reducible first | exact HI367.out | apply IsS105.alloc | apply IsS105.drewN | apply IsS105.drew | apply IsS105.set_1 | apply IsS105.set_2 | refine IsS105.far ?_ NB367_361.out _ | refine IsS105.far ?_ NB367_362.out _ | refine IsS105.far ?_ NB367_363.out _ | refine IsS105.far ?_ NB367_374.out _ | refine IsS105.far ?_ NB367_387.out _) | exact HI367.out))
 (case side2 => repeat (first | (with_reducible first | exact HB.out | apply below_alloc | apply pw_below_drewN | apply below_drew1 | refine below_set ?_ (IsS105.ge HI367.out) | refine below_set ?_ GE361.out | refine below_set ?_ GE362.out | refine below_set ?_ GE363.out | refine below_set ?_ GE374.out | refine below_set ?_ GE387.out) | exact HB.out))
 rintro e w52 ⟨rfl, hi, hb, hk⟩
 refine ⟨_, rfl, ?_⟩
 have n0_ := Aside0.mk (KeepBut.blk hk (g' := gb361) (o := .cells #[.int .i64 0, .int .i64 0, .int .i64 0, .int .i64 0] 40 (0, 0)) BK361.out NB361_367.out (by simp))
 have n1_ := Aside0.mk (KeepBut.blk hk (g' := gb362) (o := .cells #[.int .i64 0, .int .i64 0, .int .i64 0, .int .i64 0] 40 (0, 0)) BK362.out NB362_367.out (by simp))
 have n2_ := Aside0.mk (KeepBut.blk hk (g' := gb363) (o := .cells #[.int .i64 0, .int .i64 0] 24 (0, 0)) BK363.out NB363_367.out (by simp))
 have n3_ := Aside0.mk (KeepBut.blk hk (g' := gb374) (o := .cells #[.int .i64 t368, .int .i64 t371, .int .i64 (wrap64 (t368 + t375)), .int .i64 (wrap64 (t371 + t378))] 40 (0, 0)) BK374.out NB374_367.out (by simp))
 have n4_ := Aside0.mk (KeepBut.blk hk (g' := gb387) (o := .cells #[.int .i64 t381, .int .i64 t384, .int .i64 (wrap64 (t381 + t388)), .int .i64 (wrap64 (t384 + t391))] 40 (0, 0)) BK387.out NB387_367.out (by simp))
 have n5_ := Aside0.mk (hb)
 have n6_ := Aside0.mk (hi)
 clear BK361
 clear BK362
 clear BK363
 clear BK374
 clear BK387
 clear HB
 clear HI367
 have BK361 := n0_
 have BK362 := n1_
 have BK363 := n2_
 have BK374 := n3_
 have BK387 := n4_
 have HB := n5_
 have HI367 := n6_
 clear n0_ n1_ n2_ n3_ n4_ n5_ n6_
 (try clear hb)
 (try clear hb2)
 (try clear hk)
 (try clear hi)
 refine hK.out _ _ ⟨(blk_cell BK374.out 0).trans rfl, (blk_cell BK374.out 1).trans rfl, (blk_cell BK374.out 2).trans rfl, (blk_cell BK374.out 3).trans rfl, (blk_cell BK387.out 0).trans rfl, (blk_cell BK387.out 1).trans rfl, (blk_cell BK387.out 2).trans rfl, (blk_cell BK387.out 3).trans rfl⟩ (fun hHeld => ?_)
 clear hK K
 refine norm_ (a' := ?_) ?_ ?_
 rotate_left
 ·show Act.put _ (some 47) _ = _
  simp only [Act.put, List.setIfInBounds_toArray, List.set_cons_zero, List.set_cons_succ, i64_w, i32_w]
  rfl
 refine one_ (i := 5) (N := some 49) #[true, true, true, true, true, true, false, false, false, false] rfl rfl (one_of HT_.out (by kernel_rfl)) (by decide) (fun K hK => ?_)
 refine goes_ Try.func79 (by kernel_rfl) rfl #[.pointer (some ⟨g367, 0, none⟩), .int .i64 18] (by rfl) rfl rfl (by (try simp only [List.map_toArray, List.map_cons, List.map_nil]); first | done | rfl | (simp only [List.length_drop, List.length_take]; rfl)) ?_
 with_reducible refine (spec_l01Below.calls g367 t364 t395 t396 18 t397 t398 t399 w _ ?side1 ?side2 A12.out).mono ?_
 (case side1 => repeat (first | (with_reducible first | exact HI367.out | apply IsS105.alloc | apply IsS105.drewN | apply IsS105.drew | apply IsS105.set_1 | apply IsS105.set_2 | refine IsS105.far ?_ NB367_361.out _ | refine IsS105.far ?_ NB367_362.out _ | refine IsS105.far ?_ NB367_363.out _ | refine IsS105.far ?_ NB367_374.out _ | refine IsS105.far ?_ NB367_387.out _) | exact HI367.out))
 (case side2 => repeat (first | (with_reducible first | exact HB.out | apply below_alloc | apply pw_below_drewN | apply below_drew1 | refine below_set ?_ (IsS105.ge HI367.out) | refine below_set ?_ GE361.out | refine below_set ?_ GE362.out | refine below_set ?_ GE363.out | refine below_set ?_ GE374.out | refine below_set ?_ GE387.out) | exact HB.out))
 rintro e w53 ⟨rfl, hi, hb, hk⟩
 refine ⟨_, rfl, ?_⟩
 have n0_ := Aside0.mk (KeepBut.blk hk (g' := gb361) (o := .cells #[.int .i64 0, .int .i64 0, .int .i64 0, .int .i64 0] 40 (0, 0)) BK361.out NB361_367.out (by simp))
 have n1_ := Aside0.mk (KeepBut.blk hk (g' := gb362) (o := .cells #[.int .i64 0, .int .i64 0, .int .i64 0, .int .i64 0] 40 (0, 0)) BK362.out NB362_367.out (by simp))
 have n2_ := Aside0.mk (KeepBut.blk hk (g' := gb363) (o := .cells #[.int .i64 0, .int .i64 0] 24 (0, 0)) BK363.out NB363_367.out (by simp))
 have n3_ := Aside0.mk (KeepBut.blk hk (g' := gb374) (o := .cells #[.int .i64 t368, .int .i64 t371, .int .i64 (wrap64 (t368 + t375)), .int .i64 (wrap64 (t371 + t378))] 40 (0, 0)) BK374.out NB374_367.out (by simp))
 have n4_ := Aside0.mk (KeepBut.blk hk (g' := gb387) (o := .cells #[.int .i64 t381, .int .i64 t384, .int .i64 (wrap64 (t381 + t388)), .int .i64 (wrap64 (t384 + t391))] 40 (0, 0)) BK387.out NB387_367.out (by simp))
 have n5_ := Aside0.mk (hb)
 have n6_ := Aside0.mk (hi)
 clear BK361
 clear BK362
 clear BK363
 clear BK374
 clear BK387
 clear HB
 clear HI367
 have BK361 := n0_
 have BK362 := n1_
 have BK363 := n2_
 have BK374 := n3_
 have BK387 := n4_
 have HB := n5_
 have HI367 := n6_
 clear n0_ n1_ n2_ n3_ n4_ n5_ n6_
 (try clear hb)
 (try clear hb2)
 (try clear hk)
 (try clear hi)
 refine hK.out _ _ ⟨(blk_cell BK374.out 0).trans rfl, (blk_cell BK374.out 1).trans rfl, (blk_cell BK374.out 2).trans rfl, (blk_cell BK374.out 3).trans rfl, (blk_cell BK387.out 0).trans rfl, (blk_cell BK387.out 1).trans rfl, (blk_cell BK387.out 2).trans rfl, (blk_cell BK387.out 3).trans rfl⟩ (fun hHeld => ?_)
 clear hK K
 refine norm_ (a' := ?_) ?_ ?_
 rotate_left
 ·show Act.put _ (some 49) _ = _
  simp only [Act.put, List.setIfInBounds_toArray, List.set_cons_zero, List.set_cons_succ, i64_w, i32_w]
  rfl
 refine pure_ (i := 6) (N := some 50) (v := ?_) (a' := ?_) #[true, true, true, true, true, true, true, false, false, false] rfl rfl (any_of HT_.out (by kernel_rfl)) (fun _ _ _ h => h) (Or.inl ⟨by rfl, ?_⟩) ?_ ?_
 rotate_left
 ·intro w'
  go_simp
  with_reducible rfl
 rotate_left
 ·simp only [Act.put, List.setIfInBounds_toArray, List.set_cons_zero, List.set_cons_succ, i64_w, i32_w]
  rfl
 refine one_ (i := 7) (N := none) #[true, true, true, true, true, true, true, true, false, false] rfl rfl (one_of HT_.out (by kernel_rfl)) (by decide) (fun K hK => ?_)
 have hs54 : w53.cell? ⟨gb361, 0, none⟩ = some (.int .i64 0) := (blk_cell BK361.out 0).trans rfl
 have hfs54 := blk_frozen BK361.out 0
 have hns54_1 := NB362_361.out
 have hns54_2 := NB363_361.out
 have hns54_3 := NB374_361.out
 have hns54_4 := NB387_361.out
 have hms54_1 := NB361_362.out
 have hms54_2 := NB361_363.out
 have hms54_3 := NB361_374.out
 have hms54_4 := NB361_387.out
 have hs55 : w53.cell? ⟨gb361, 1, none⟩ = some (.int .i64 0) := (blk_cell BK361.out 1).trans rfl
 have hfs55 := blk_frozen BK361.out 1
 have hns55_1 := NB362_361.out
 have hns55_2 := NB363_361.out
 have hns55_3 := NB374_361.out
 have hns55_4 := NB387_361.out
 have hms55_1 := NB361_362.out
 have hms55_2 := NB361_363.out
 have hms55_3 := NB361_374.out
 have hms55_4 := NB361_387.out
 have hs56 : w53.cell? ⟨gb361, 2, none⟩ = some (.int .i64 0) := (blk_cell BK361.out 2).trans rfl
 have hfs56 := blk_frozen BK361.out 2
 have hns56_1 := NB362_361.out
 have hns56_2 := NB363_361.out
 have hns56_3 := NB374_361.out
 have hns56_4 := NB387_361.out
 have hms56_1 := NB361_362.out
 have hms56_2 := NB361_363.out
 have hms56_3 := NB361_374.out
 have hms56_4 := NB361_387.out
 have hs57 : w53.cell? ⟨gb361, 3, none⟩ = some (.int .i64 0) := (blk_cell BK361.out 3).trans rfl
 have hfs57 := blk_frozen BK361.out 3
 have hns57_1 := NB362_361.out
 have hns57_2 := NB363_361.out
 have hns57_3 := NB374_361.out
 have hns57_4 := NB387_361.out
 have hms57_1 := NB361_362.out
 have hms57_2 := NB361_363.out
 have hms57_3 := NB361_374.out
 have hms57_4 := NB361_387.out
 refine skip_ (w1 := ?_) ?hw ?hn ?_ ?_; (case hw => kernel_rfl); (case hn => kernel_rfl)
 rotate_left
 ·go_simp
  rfl
 refine hK.out _ _ ⟨((cell_far (p := ⟨gb361, _, none⟩) NB374_361.out _).trans (((cell_far (p := ⟨gb361, _, none⟩) NB374_361.out _).trans (((cell_far (p := ⟨gb361, _, none⟩) NB374_361.out _).trans (((cell_far (p := ⟨gb361, _, none⟩) NB374_361.out _).trans (hHeld.1)))))))), ((cell_far (p := ⟨gb361, _, none⟩) NB374_361.out _).trans (((cell_far (p := ⟨gb361, _, none⟩) NB374_361.out _).trans (((cell_far (p := ⟨gb361, _, none⟩) NB374_361.out _).trans (((cell_far (p := ⟨gb361, _, none⟩) NB374_361.out _).trans (hHeld.2.1)))))))), ((cell_far (p := ⟨gb361, _, none⟩) NB374_361.out _).trans (((cell_far (p := ⟨gb361, _, none⟩) NB374_361.out _).trans (((cell_far (p := ⟨gb361, _, none⟩) NB374_361.out _).trans (((cell_far (p := ⟨gb361, _, none⟩) NB374_361.out _).trans (hHeld.2.2.1)))))))), ((cell_far (p := ⟨gb361, _, none⟩) NB374_361.out _).trans (((cell_far (p := ⟨gb361, _, none⟩) NB374_361.out _).trans (((cell_far (p := ⟨gb361, _, none⟩) NB374_361.out _).trans (((cell_far (p := ⟨gb361, _, none⟩) NB374_361.out _).trans (hHeld.2.2.2.1)))))))), ((cell_far (p := ⟨gb361, _, none⟩) NB387_361.out _).trans (((cell_far (p := ⟨gb361, _, none⟩) NB387_361.out _).trans (((cell_far (p := ⟨gb361, _, none⟩) NB387_361.out _).trans (((cell_far (p := ⟨gb361, _, none⟩) NB387_361.out _).trans (hHeld.2.2.2.2.1)))))))), ((cell_far (p := ⟨gb361, _, none⟩) NB387_361.out _).trans (((cell_far (p := ⟨gb361, _, none⟩) NB387_361.out _).trans (((cell_far (p := ⟨gb361, _, none⟩) NB387_361.out _).trans (((cell_far (p := ⟨gb361, _, none⟩) NB387_361.out _).trans (hHeld.2.2.2.2.2.1)))))))), ((cell_far (p := ⟨gb361, _, none⟩) NB387_361.out _).trans (((cell_far (p := ⟨gb361, _, none⟩) NB387_361.out _).trans (((cell_far (p := ⟨gb361, _, none⟩) NB387_361.out _).trans (((cell_far (p := ⟨gb361, _, none⟩) NB387_361.out _).trans (hHeld.2.2.2.2.2.2.1)))))))), ((cell_far (p := ⟨gb361, _, none⟩) NB387_361.out _).trans (((cell_far (p := ⟨gb361, _, none⟩) NB387_361.out _).trans (((cell_far (p := ⟨gb361, _, none⟩) NB387_361.out _).trans (((cell_far (p := ⟨gb361, _, none⟩) NB387_361.out _).trans (hHeld.2.2.2.2.2.2.2))))))))⟩ (fun hHeld => ?_)
 clear hK K
 refine one_ (i := 8) (N := none) #[true, true, true, true, true, true, true, true, true, false] rfl rfl (one_of HT_.out (by kernel_rfl)) (by decide) (fun K hK => ?_)
 have hs58 : w53.cell? ⟨gb362, 0, none⟩ = some (.int .i64 0) := (blk_cell BK362.out 0).trans rfl
 have hfs58 := blk_frozen BK362.out 0
 have hns58_0 := NB361_362.out
 have hns58_2 := NB363_362.out
 have hns58_3 := NB374_362.out
 have hns58_4 := NB387_362.out
 have hms58_0 := NB362_361.out
 have hms58_2 := NB362_363.out
 have hms58_3 := NB362_374.out
 have hms58_4 := NB362_387.out
 have hs59 : w53.cell? ⟨gb362, 1, none⟩ = some (.int .i64 0) := (blk_cell BK362.out 1).trans rfl
 have hfs59 := blk_frozen BK362.out 1
 have hns59_0 := NB361_362.out
 have hns59_2 := NB363_362.out
 have hns59_3 := NB374_362.out
 have hns59_4 := NB387_362.out
 have hms59_0 := NB362_361.out
 have hms59_2 := NB362_363.out
 have hms59_3 := NB362_374.out
 have hms59_4 := NB362_387.out
 have hs60 : w53.cell? ⟨gb362, 2, none⟩ = some (.int .i64 0) := (blk_cell BK362.out 2).trans rfl
 have hfs60 := blk_frozen BK362.out 2
 have hns60_0 := NB361_362.out
 have hns60_2 := NB363_362.out
 have hns60_3 := NB374_362.out
 have hns60_4 := NB387_362.out
 have hms60_0 := NB362_361.out
 have hms60_2 := NB362_363.out
 have hms60_3 := NB362_374.out
 have hms60_4 := NB362_387.out
 have hs61 : w53.cell? ⟨gb362, 3, none⟩ = some (.int .i64 0) := (blk_cell BK362.out 3).trans rfl
 have hfs61 := blk_frozen BK362.out 3
 have hns61_0 := NB361_362.out
 have hns61_2 := NB363_362.out
 have hns61_3 := NB374_362.out
 have hns61_4 := NB387_362.out
 have hms61_0 := NB362_361.out
 have hms61_2 := NB362_363.out
 have hms61_3 := NB362_374.out
 have hms61_4 := NB362_387.out
 refine skip_ (w1 := ?_) ?hw ?hn ?_ ?_; (case hw => kernel_rfl); (case hn => kernel_rfl)
 rotate_left
 ·go_simp
  rfl
 refine hK.out _ _ ⟨((cell_far (p := ⟨gb362, _, none⟩) NB374_362.out _).trans (((cell_far (p := ⟨gb362, _, none⟩) NB374_362.out _).trans (((cell_far (p := ⟨gb362, _, none⟩) NB374_362.out _).trans (((cell_far (p := ⟨gb362, _, none⟩) NB374_362.out _).trans (hHeld.1)))))))), ((cell_far (p := ⟨gb362, _, none⟩) NB374_362.out _).trans (((cell_far (p := ⟨gb362, _, none⟩) NB374_362.out _).trans (((cell_far (p := ⟨gb362, _, none⟩) NB374_362.out _).trans (((cell_far (p := ⟨gb362, _, none⟩) NB374_362.out _).trans (hHeld.2.1)))))))), ((cell_far (p := ⟨gb362, _, none⟩) NB374_362.out _).trans (((cell_far (p := ⟨gb362, _, none⟩) NB374_362.out _).trans (((cell_far (p := ⟨gb362, _, none⟩) NB374_362.out _).trans (((cell_far (p := ⟨gb362, _, none⟩) NB374_362.out _).trans (hHeld.2.2.1)))))))), ((cell_far (p := ⟨gb362, _, none⟩) NB374_362.out _).trans (((cell_far (p := ⟨gb362, _, none⟩) NB374_362.out _).trans (((cell_far (p := ⟨gb362, _, none⟩) NB374_362.out _).trans (((cell_far (p := ⟨gb362, _, none⟩) NB374_362.out _).trans (hHeld.2.2.2.1)))))))), ((cell_far (p := ⟨gb362, _, none⟩) NB387_362.out _).trans (((cell_far (p := ⟨gb362, _, none⟩) NB387_362.out _).trans (((cell_far (p := ⟨gb362, _, none⟩) NB387_362.out _).trans (((cell_far (p := ⟨gb362, _, none⟩) NB387_362.out _).trans (hHeld.2.2.2.2.1)))))))), ((cell_far (p := ⟨gb362, _, none⟩) NB387_362.out _).trans (((cell_far (p := ⟨gb362, _, none⟩) NB387_362.out _).trans (((cell_far (p := ⟨gb362, _, none⟩) NB387_362.out _).trans (((cell_far (p := ⟨gb362, _, none⟩) NB387_362.out _).trans (hHeld.2.2.2.2.2.1)))))))), ((cell_far (p := ⟨gb362, _, none⟩) NB387_362.out _).trans (((cell_far (p := ⟨gb362, _, none⟩) NB387_362.out _).trans (((cell_far (p := ⟨gb362, _, none⟩) NB387_362.out _).trans (((cell_far (p := ⟨gb362, _, none⟩) NB387_362.out _).trans (hHeld.2.2.2.2.2.2.1)))))))), ((cell_far (p := ⟨gb362, _, none⟩) NB387_362.out _).trans (((cell_far (p := ⟨gb362, _, none⟩) NB387_362.out _).trans (((cell_far (p := ⟨gb362, _, none⟩) NB387_362.out _).trans (((cell_far (p := ⟨gb362, _, none⟩) NB387_362.out _).trans (hHeld.2.2.2.2.2.2.2))))))))⟩ (fun hHeld => ?_)
 clear hK K
 refine one_ (i := 9) (N := none) #[true, true, true, true, true, true, true, true, true, true] rfl rfl (one_of HT_.out (by kernel_rfl)) (by decide) (fun K hK => ?_)
 have hs62 : w53.cell? ⟨gb363, 0, none⟩ = some (.int .i64 0) := (blk_cell BK363.out 0).trans rfl
 have hfs62 := blk_frozen BK363.out 0
 have hns62_0 := NB361_363.out
 have hns62_1 := NB362_363.out
 have hns62_3 := NB374_363.out
 have hns62_4 := NB387_363.out
 have hms62_0 := NB363_361.out
 have hms62_1 := NB363_362.out
 have hms62_3 := NB363_374.out
 have hms62_4 := NB363_387.out
 have hs63 : w53.cell? ⟨gb363, 1, none⟩ = some (.int .i64 0) := (blk_cell BK363.out 1).trans rfl
 have hfs63 := blk_frozen BK363.out 1
 have hns63_0 := NB361_363.out
 have hns63_1 := NB362_363.out
 have hns63_3 := NB374_363.out
 have hns63_4 := NB387_363.out
 have hms63_0 := NB363_361.out
 have hms63_1 := NB363_362.out
 have hms63_3 := NB363_374.out
 have hms63_4 := NB363_387.out
 refine skip_ (w1 := ?_) ?hw ?hn ?_ ?_; (case hw => kernel_rfl); (case hn => kernel_rfl)
 rotate_left
 ·go_simp
  rfl
 refine hK.out _ _ ⟨((cell_far (p := ⟨gb363, _, none⟩) NB374_363.out _).trans (((cell_far (p := ⟨gb363, _, none⟩) NB374_363.out _).trans (hHeld.1)))), ((cell_far (p := ⟨gb363, _, none⟩) NB374_363.out _).trans (((cell_far (p := ⟨gb363, _, none⟩) NB374_363.out _).trans (hHeld.2.1)))), ((cell_far (p := ⟨gb363, _, none⟩) NB374_363.out _).trans (((cell_far (p := ⟨gb363, _, none⟩) NB374_363.out _).trans (hHeld.2.2.1)))), ((cell_far (p := ⟨gb363, _, none⟩) NB374_363.out _).trans (((cell_far (p := ⟨gb363, _, none⟩) NB374_363.out _).trans (hHeld.2.2.2.1)))), ((cell_far (p := ⟨gb363, _, none⟩) NB387_363.out _).trans (((cell_far (p := ⟨gb363, _, none⟩) NB387_363.out _).trans (hHeld.2.2.2.2.1)))), ((cell_far (p := ⟨gb363, _, none⟩) NB387_363.out _).trans (((cell_far (p := ⟨gb363, _, none⟩) NB387_363.out _).trans (hHeld.2.2.2.2.2.1)))), ((cell_far (p := ⟨gb363, _, none⟩) NB387_363.out _).trans (((cell_far (p := ⟨gb363, _, none⟩) NB387_363.out _).trans (hHeld.2.2.2.2.2.2.1)))), ((cell_far (p := ⟨gb363, _, none⟩) NB387_363.out _).trans (((cell_far (p := ⟨gb363, _, none⟩) NB387_363.out _).trans (hHeld.2.2.2.2.2.2.2))))⟩ (fun hHeld => ?_)
 clear hK K
 refine done_ (done_of HT_.out (by kernel_rfl)) ?_
 try go_wp2
 refine bodyPost_ret (results_list (rs := [.cell 2 40, .cell 3 40, .cell 4 24]) rfl (by simp) (.cell gb361 40 #[.int .i64 t368, .int .i64 t371, .int .i64 (wrap64 (t368 + t375)), .int .i64 (wrap64 (t371 + t378))] (0, 0) _ rfl (by (with_reducible repeat (first | refine blk_drewN ?_ _ | refine blk_drew ?_ | refine blk_alloc ?_ _)); refine blk_far ?_ NB361_363.out _; (with_reducible repeat (first | refine blk_drewN ?_ _ | refine blk_drew ?_ | refine blk_alloc ?_ _)); refine blk_far ?_ NB361_363.out _; (with_reducible repeat (first | refine blk_drewN ?_ _ | refine blk_drew ?_ | refine blk_alloc ?_ _)); refine blk_far ?_ NB361_362.out _; (with_reducible repeat (first | refine blk_drewN ?_ _ | refine blk_drew ?_ | refine blk_alloc ?_ _)); refine blk_far ?_ NB361_362.out _; (with_reducible repeat (first | refine blk_drewN ?_ _ | refine blk_drew ?_ | refine blk_alloc ?_ _)); refine blk_far ?_ NB361_362.out _; (with_reducible repeat (first | refine blk_drewN ?_ _ | refine blk_drew ?_ | refine blk_alloc ?_ _)); refine blk_far ?_ NB361_362.out _; (with_reducible repeat (first | refine blk_drewN ?_ _ | refine blk_drew ?_ | refine blk_alloc ?_ _)); refine blk_put (cs := #[.int .i64 t368, .int .i64 t371, .int .i64 (wrap64 (t368 + t375)), .int .i64 0]) ?_ 3 _ rfl; (with_reducible repeat (first | refine blk_drewN ?_ _ | refine blk_drew ?_ | refine blk_alloc ?_ _)); refine blk_put (cs := #[.int .i64 t368, .int .i64 t371, .int .i64 0, .int .i64 0]) ?_ 2 _ rfl; (with_reducible repeat (first | refine blk_drewN ?_ _ | refine blk_drew ?_ | refine blk_alloc ?_ _)); refine blk_put (cs := #[.int .i64 t368, .int .i64 0, .int .i64 0, .int .i64 0]) ?_ 1 _ rfl; (with_reducible repeat (first | refine blk_drewN ?_ _ | refine blk_drew ?_ | refine blk_alloc ?_ _)); refine blk_put (cs := #[.int .i64 0, .int .i64 0, .int .i64 0, .int .i64 0]) ?_ 0 _ rfl; (with_reducible repeat (first | refine blk_drewN ?_ _ | refine blk_drew ?_ | refine blk_alloc ?_ _)); exact BK361.out) Try.underlying40 rfl (by kernel_rfl) (.cell gb362 40 #[.int .i64 t381, .int .i64 t384, .int .i64 (wrap64 (t381 + t388)), .int .i64 (wrap64 (t384 + t391))] (0, 0) _ rfl (by (with_reducible repeat (first | refine blk_drewN ?_ _ | refine blk_drew ?_ | refine blk_alloc ?_ _)); refine blk_far ?_ NB362_363.out _; (with_reducible repeat (first | refine blk_drewN ?_ _ | refine blk_drew ?_ | refine blk_alloc ?_ _)); refine blk_far ?_ NB362_363.out _; (with_reducible repeat (first | refine blk_drewN ?_ _ | refine blk_drew ?_ | refine blk_alloc ?_ _)); refine blk_put (cs := #[.int .i64 t381, .int .i64 t384, .int .i64 (wrap64 (t381 + t388)), .int .i64 0]) ?_ 3 _ rfl; (with_reducible repeat (first | refine blk_drewN ?_ _ | refine blk_drew ?_ | refine blk_alloc ?_ _)); refine blk_put (cs := #[.int .i64 t381, .int .i64 t384, .int .i64 0, .int .i64 0]) ?_ 2 _ rfl; (with_reducible repeat (first | refine blk_drewN ?_ _ | refine blk_drew ?_ | refine blk_alloc ?_ _)); refine blk_put (cs := #[.int .i64 t381, .int .i64 0, .int .i64 0, .int .i64 0]) ?_ 1 _ rfl; (with_reducible repeat (first | refine blk_drewN ?_ _ | refine blk_drew ?_ | refine blk_alloc ?_ _)); refine blk_put (cs := #[.int .i64 0, .int .i64 0, .int .i64 0, .int .i64 0]) ?_ 0 _ rfl; (with_reducible repeat (first | refine blk_drewN ?_ _ | refine blk_drew ?_ | refine blk_alloc ?_ _)); refine blk_far ?_ NB362_361.out _; (with_reducible repeat (first | refine blk_drewN ?_ _ | refine blk_drew ?_ | refine blk_alloc ?_ _)); refine blk_far ?_ NB362_361.out _; (with_reducible repeat (first | refine blk_drewN ?_ _ | refine blk_drew ?_ | refine blk_alloc ?_ _)); refine blk_far ?_ NB362_361.out _; (with_reducible repeat (first | refine blk_drewN ?_ _ | refine blk_drew ?_ | refine blk_alloc ?_ _)); refine blk_far ?_ NB362_361.out _; (with_reducible repeat (first | refine blk_drewN ?_ _ | refine blk_drew ?_ | refine blk_alloc ?_ _)); exact BK362.out) Try.underlying40 rfl (by kernel_rfl) (.cell gb363 24 #[.int .i64 t394, .int .i64 t397] (0, 0) _ rfl (by (with_reducible repeat (first | refine blk_drewN ?_ _ | refine blk_drew ?_ | refine blk_alloc ?_ _)); refine blk_put (cs := #[.int .i64 t394, .int .i64 0]) ?_ 1 _ rfl; (with_reducible repeat (first | refine blk_drewN ?_ _ | refine blk_drew ?_ | refine blk_alloc ?_ _)); refine blk_put (cs := #[.int .i64 0, .int .i64 0]) ?_ 0 _ rfl; (with_reducible repeat (first | refine blk_drewN ?_ _ | refine blk_drew ?_ | refine blk_alloc ?_ _)); refine blk_far ?_ NB363_362.out _; (with_reducible repeat (first | refine blk_drewN ?_ _ | refine blk_drew ?_ | refine blk_alloc ?_ _)); refine blk_far ?_ NB363_362.out _; (with_reducible repeat (first | refine blk_drewN ?_ _ | refine blk_drew ?_ | refine blk_alloc ?_ _)); refine blk_far ?_ NB363_362.out _; (with_reducible repeat (first | refine blk_drewN ?_ _ | refine blk_drew ?_ | refine blk_alloc ?_ _)); refine blk_far ?_ NB363_362.out _; (with_reducible repeat (first | refine blk_drewN ?_ _ | refine blk_drew ?_ | refine blk_alloc ?_ _)); refine blk_far ?_ NB363_361.out _; (with_reducible repeat (first | refine blk_drewN ?_ _ | refine blk_drew ?_ | refine blk_alloc ?_ _)); refine blk_far ?_ NB363_361.out _; (with_reducible repeat (first | refine blk_drewN ?_ _ | refine blk_drew ?_ | refine blk_alloc ?_ _)); refine blk_far ?_ NB363_361.out _; (with_reducible repeat (first | refine blk_drewN ?_ _ | refine blk_drew ?_ | refine blk_alloc ?_ _)); refine blk_far ?_ NB363_361.out _; (with_reducible repeat (first | refine blk_drewN ?_ _ | refine blk_drew ?_ | refine blk_alloc ?_ _)); exact BK363.out) Try.underlying24 rfl (by kernel_rfl) .nil)))) rfl ?_
 exact ⟨by first | rfl | (simp [errW_none, errW_some] <;> rfl) | (simp [*, errW_none, errW_some] <;> rfl), by repeat (first | (with_reducible first | exact HB.out | apply below_alloc | apply pw_below_drewN | apply below_drew1 | refine below_set ?_ (IsS105.ge HI367.out) | refine below_set ?_ GE361.out | refine below_set ?_ GE362.out | refine below_set ?_ GE363.out | refine below_set ?_ GE374.out | refine below_set ?_ GE387.out) | exact HB.out)⟩

end Go.Proofs.Ytdlocaecdlgnjaa.PFnMovedPaths
