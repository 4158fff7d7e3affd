/- The walks of FnBoxes, part 3: what the print wrote, with some proofs of the session's own. -/
import Derived.Test.YtpeopmkgabfjbaaName
import Derived.Test.YtpeopmkgabfjbaaQFnBoxesx0
import Derived.Test.YtpeopmkgabfjbaaQFnBoxesx2
namespace Go.Proofs.Ytpeopmkgabfjbaa.PFnBoxes
open Go.RowKit Go.Proofs.YtpeopmkgabfjbaaW.PrintWords Go.Proofs.YtpeopmkgabfjbaaW.PrintLast Go.Proofs.YtpeopmkgabfjbaaW.PrintMore
attribute [local go_sem] max2_int min2_int max_two min_two max_three min_three max_four min_four   -- for this text's walks alone
set_option linter.unusedVariables false
set_option linter.unusedSimpArgs false

/-! ### spec_DrawBoxes: function 18 -/
def spec_DrawBoxes.f (k : Nat) (l0 : List Int) : Option (Int × Int × Int × Int × Int × Int × Int × Int × Int × Int) := (spec_l01New.f k l0).bind fun bt123 => ((spec_l01Below.f bt123.1 bt123.2.1 bt123.2.2 9).bind fun bt127 => ((spec_l01Below.f bt123.1 bt127.2.1 bt127.2.2 9).bind fun bt130 => ((spec_l01Below.f bt123.1 bt130.2.1 bt130.2.2 9).bind fun bt134 => ((spec_l01Below.f bt123.1 bt134.2.1 bt134.2.2 9).bind fun bt137 => ((spec_l01Below.f bt123.1 bt137.2.1 bt137.2.2 9).bind fun bt140 => ((spec_l01Below.f bt123.1 bt140.2.1 bt140.2.2 9).bind fun bt143 => ((spec_l01Below.f bt123.1 bt143.2.1 bt143.2.2 9).bind fun bt147 => ((spec_l01Below.f bt123.1 bt147.2.1 bt147.2.2 9).bind fun bt150 => ((spec_l01Below.f bt123.1 bt150.2.1 bt150.2.2 18).bind fun bt153 => ((spec_l01Below.f bt123.1 bt153.2.1 bt153.2.2 18).bind fun bt156 => (some (bt127.1, bt130.1, wrap64 (bt127.1 + bt134.1), wrap64 (bt130.1 + bt137.1), bt140.1, bt143.1, wrap64 (bt140.1 + bt147.1), wrap64 (bt143.1 + bt150.1), bt153.1, bt156.1))))))))))))
def spec_DrawBoxes.T8 : Bool × List (List Nat × List Nat) := (true, [([], []), ([], []), ([], []), ([2], [2]), ([], []), ([4, 3], [4]), ([3, 5], [3, 5]), ([0, 5, 0], [0]), ([1, 7, 0, 1, 7], [1]), ([6, 8, 0, 1, 2, 3, 4, 5, 6, 7, 8], [6])])
def spec_DrawBoxes.B8 : List Nat := [0, 0, 0, 4, 0, 28, 60, 61, 191, 511]
theorem spec_DrawBoxes.tab8 : rtab .any (opsOf Try.f18 8) = spec_DrawBoxes.T8 := by kernel_rfl
theorem spec_DrawBoxes.bits8 : waitsOk spec_DrawBoxes.T8.2 spec_DrawBoxes.B8 = true := by kernel_rfl
set_option maxHeartbeats 8000000 in
set_option maxRecDepth 100000 in
theorem spec_DrawBoxes.calls (k : Nat) (A0 : Option Addr) (c0 : Nat) (l0 : List Int) (r1 : Int) (r2 : Int) (r3 : Int) (r4 : Int) (r5 : Int) (r6 : Int) (r7 : Int) (r8 : Int) (r9 : Int) (r10 : Int) (w : World) (hr0 : Kd.C (Kd.int .u8) w A0 l0.length l0) (hc0 : l0.length ≤ c0) (h : spec_DrawBoxes.f k l0 = some (r1, r2, r3, r4, r5, r6, r7, r8, r9, r10)) :
    Calls Try.prog 18 #[.slice A0 l0.length c0] w fun e w' => e = .returned (.tuple #[.agg #[.int .i64 r1, .int .i64 r2, .int .i64 r3, .int .i64 r4], .agg #[.int .i64 r5, .int .i64 r6, .int .i64 r7, .int .i64 r8], .agg #[.int .i64 r9, .int .i64 r10]]) ∧ Below w.heap.size w w' := by
  have hu34 := Try.underlying34
  have hu36 := Try.underlying36
  have HR0 := Aside0.mk hr0
  have HC0 := Aside0.mk hc0
  clear hr0 hc0
  have HB := Aside0.mk (Below.refl w.heap.size w)
  have H : ((spec_l01New.f k l0).bind fun bt123 => ((spec_l01Below.f bt123.1 bt123.2.1 bt123.2.2 9).bind fun bt127 => ((spec_l01Below.f bt123.1 bt127.2.1 bt127.2.2 9).bind fun bt130 => ((spec_l01Below.f bt123.1 bt130.2.1 bt130.2.2 9).bind fun bt134 => ((spec_l01Below.f bt123.1 bt134.2.1 bt134.2.2 9).bind fun bt137 => ((spec_l01Below.f bt123.1 bt137.2.1 bt137.2.2 9).bind fun bt140 => ((spec_l01Below.f bt123.1 bt140.2.1 bt140.2.2 9).bind fun bt143 => ((spec_l01Below.f bt123.1 bt143.2.1 bt143.2.2 9).bind fun bt147 => ((spec_l01Below.f bt123.1 bt147.2.1 bt147.2.2 9).bind fun bt150 => ((spec_l01Below.f bt123.1 bt150.2.1 bt150.2.2 18).bind fun bt153 => ((spec_l01Below.f bt123.1 bt153.2.1 bt153.2.2 18).bind fun bt156 => (some (bt127.1, bt130.1, wrap64 (bt127.1 + bt134.1), wrap64 (bt130.1 + bt137.1), bt140.1, bt143.1, wrap64 (bt140.1 + bt147.1), wrap64 (bt143.1 + bt150.1), bt153.1, bt156.1))))))))))))) = some (r1, r2, r3, r4, r5, r6, r7, r8, r9, r10) := h
  clear h
  replace H := Option.bind_eq_some_iff.mp H
  obtain ⟨⟨t123, t124, t125⟩, A20, H⟩ := H
  replace H : ((spec_l01Below.f t123 t124 t125 9).bind fun bt127 => ((spec_l01Below.f t123 bt127.2.1 bt127.2.2 9).bind fun bt130 => ((spec_l01Below.f t123 bt130.2.1 bt130.2.2 9).bind fun bt134 => ((spec_l01Below.f t123 bt134.2.1 bt134.2.2 9).bind fun bt137 => ((spec_l01Below.f t123 bt137.2.1 bt137.2.2 9).bind fun bt140 => ((spec_l01Below.f t123 bt140.2.1 bt140.2.2 9).bind fun bt143 => ((spec_l01Below.f t123 bt143.2.1 bt143.2.2 9).bind fun bt147 => ((spec_l01Below.f t123 bt147.2.1 bt147.2.2 9).bind fun bt150 => ((spec_l01Below.f t123 bt150.2.1 bt150.2.2 18).bind fun bt153 => ((spec_l01Below.f t123 bt153.2.1 bt153.2.2 18).bind fun bt156 => (some (bt127.1, bt130.1, wrap64 (bt127.1 + bt134.1), wrap64 (bt130.1 + bt137.1), bt140.1, bt143.1, wrap64 (bt140.1 + bt147.1), wrap64 (bt143.1 + bt150.1), bt153.1, bt156.1)))))))))))) = some (r1, r2, r3, r4, r5, r6, r7, r8, r9, r10) := H
  have A2 := Aside0.mk A20
  clear A20
  replace H := Option.bind_eq_some_iff.mp H
  obtain ⟨⟨t127, t128, t129⟩, A30, H⟩ := H
  replace H : ((spec_l01Below.f t123 t128 t129 9).bind fun bt130 => ((spec_l01Below.f t123 bt130.2.1 bt130.2.2 9).bind fun bt134 => ((spec_l01Below.f t123 bt134.2.1 bt134.2.2 9).bind fun bt137 => ((spec_l01Below.f t123 bt137.2.1 bt137.2.2 9).bind fun bt140 => ((spec_l01Below.f t123 bt140.2.1 bt140.2.2 9).bind fun bt143 => ((spec_l01Below.f t123 bt143.2.1 bt143.2.2 9).bind fun bt147 => ((spec_l01Below.f t123 bt147.2.1 bt147.2.2 9).bind fun bt150 => ((spec_l01Below.f t123 bt150.2.1 bt150.2.2 18).bind fun bt153 => ((spec_l01Below.f t123 bt153.2.1 bt153.2.2 18).bind fun bt156 => (some (t127, bt130.1, wrap64 (t127 + bt134.1), wrap64 (bt130.1 + bt137.1), bt140.1, bt143.1, wrap64 (bt140.1 + bt147.1), wrap64 (bt143.1 + bt150.1), bt153.1, bt156.1))))))))))) = some (r1, r2, r3, r4, r5, r6, r7, r8, r9, r10) := H
  have A3 := Aside0.mk A30
  clear A30
  replace H := Option.bind_eq_some_iff.mp H
  obtain ⟨⟨t130, t131, t132⟩, A40, H⟩ := H
  replace H : ((spec_l01Below.f t123 t131 t132 9).bind fun bt134 => ((spec_l01Below.f t123 bt134.2.1 bt134.2.2 9).bind fun bt137 => ((spec_l01Below.f t123 bt137.2.1 bt137.2.2 9).bind fun bt140 => ((spec_l01Below.f t123 bt140.2.1 bt140.2.2 9).bind fun bt143 => ((spec_l01Below.f t123 bt143.2.1 bt143.2.2 9).bind fun bt147 => ((spec_l01Below.f t123 bt147.2.1 bt147.2.2 9).bind fun bt150 => ((spec_l01Below.f t123 bt150.2.1 bt150.2.2 18).bind fun bt153 => ((spec_l01Below.f t123 bt153.2.1 bt153.2.2 18).bind fun bt156 => (some (t127, t130, wrap64 (t127 + bt134.1), wrap64 (t130 + bt137.1), bt140.1, bt143.1, wrap64 (bt140.1 + bt147.1), wrap64 (bt143.1 + bt150.1), bt153.1, bt156.1)))))))))) = some (r1, r2, r3, r4, r5, r6, r7, r8, r9, r10) := H
  have A4 := Aside0.mk A40
  clear A40
  replace H := Option.bind_eq_some_iff.mp H
  obtain ⟨⟨t134, t135, t136⟩, A50, H⟩ := H
  replace H : ((spec_l01Below.f t123 t135 t136 9).bind fun bt137 => ((spec_l01Below.f t123 bt137.2.1 bt137.2.2 9).bind fun bt140 => ((spec_l01Below.f t123 bt140.2.1 bt140.2.2 9).bind fun bt143 => ((spec_l01Below.f t123 bt143.2.1 bt143.2.2 9).bind fun bt147 => ((spec_l01Below.f t123 bt147.2.1 bt147.2.2 9).bind fun bt150 => ((spec_l01Below.f t123 bt150.2.1 bt150.2.2 18).bind fun bt153 => ((spec_l01Below.f t123 bt153.2.1 bt153.2.2 18).bind fun bt156 => (some (t127, t130, wrap64 (t127 + t134), wrap64 (t130 + bt137.1), bt140.1, bt143.1, wrap64 (bt140.1 + bt147.1), wrap64 (bt143.1 + bt150.1), bt153.1, bt156.1))))))))) = some (r1, r2, r3, r4, r5, r6, r7, r8, r9, r10) := H
  have A5 := Aside0.mk A50
  clear A50
  replace H := Option.bind_eq_some_iff.mp H
  obtain ⟨⟨t137, t138, t139⟩, A60, H⟩ := H
  replace H : ((spec_l01Below.f t123 t138 t139 9).bind fun bt140 => ((spec_l01Below.f t123 bt140.2.1 bt140.2.2 9).bind fun bt143 => ((spec_l01Below.f t123 bt143.2.1 bt143.2.2 9).bind fun bt147 => ((spec_l01Below.f t123 bt147.2.1 bt147.2.2 9).bind fun bt150 => ((spec_l01Below.f t123 bt150.2.1 bt150.2.2 18).bind fun bt153 => ((spec_l01Below.f t123 bt153.2.1 bt153.2.2 18).bind fun bt156 => (some (t127, t130, wrap64 (t127 + t134), wrap64 (t130 + t137), bt140.1, bt143.1, wrap64 (bt140.1 + bt147.1), wrap64 (bt143.1 + bt150.1), bt153.1, bt156.1)))))))) = some (r1, r2, r3, r4, r5, r6, r7, r8, r9, r10) := H
  have A6 := Aside0.mk A60
  clear A60
  replace H := Option.bind_eq_some_iff.mp H
  obtain ⟨⟨t140, t141, t142⟩, A70, H⟩ := H
  replace H : ((spec_l01Below.f t123 t141 t142 9).bind fun bt143 => ((spec_l01Below.f t123 bt143.2.1 bt143.2.2 9).bind fun bt147 => ((spec_l01Below.f t123 bt147.2.1 bt147.2.2 9).bind fun bt150 => ((spec_l01Below.f t123 bt150.2.1 bt150.2.2 18).bind fun bt153 => ((spec_l01Below.f t123 bt153.2.1 bt153.2.2 18).bind fun bt156 => (some (t127, t130, wrap64 (t127 + t134), wrap64 (t130 + t137), t140, bt143.1, wrap64 (t140 + bt147.1), wrap64 (bt143.1 + bt150.1), bt153.1, bt156.1))))))) = some (r1, r2, r3, r4, r5, r6, r7, r8, r9, r10) := H
  have A7 := Aside0.mk A70
  clear A70
  replace H := Option.bind_eq_some_iff.mp H
  obtain ⟨⟨t143, t144, t145⟩, A80, H⟩ := H
  replace H : ((spec_l01Below.f t123 t144 t145 9).bind fun bt147 => ((spec_l01Below.f t123 bt147.2.1 bt147.2.2 9).bind fun bt150 => ((spec_l01Below.f t123 bt150.2.1 bt150.2.2 18).bind fun bt153 => ((spec_l01Below.f t123 bt153.2.1 bt153.2.2 18).bind fun bt156 => (some (t127, t130, wrap64 (t127 + t134), wrap64 (t130 + t137), t140, t143, wrap64 (t140 + bt147.1), wrap64 (t143 + bt150.1), bt153.1, bt156.1)))))) = some (r1, r2, r3, r4, r5, r6, r7, r8, r9, r10) := H
  have A8 := Aside0.mk A80
  clear A80
  replace H := Option.bind_eq_some_iff.mp H
  obtain ⟨⟨t147, t148, t149⟩, A90, H⟩ := H
  replace H : ((spec_l01Below.f t123 t148 t149 9).bind fun bt150 => ((spec_l01Below.f t123 bt150.2.1 bt150.2.2 18).bind fun bt153 => ((spec_l01Below.f t123 bt153.2.1 bt153.2.2 18).bind fun bt156 => (some (t127, t130, wrap64 (t127 + t134), wrap64 (t130 + t137), t140, t143, wrap64 (t140 + t147), wrap64 (t143 + bt150.1), bt153.1, bt156.1))))) = some (r1, r2, r3, r4, r5, r6, r7, r8, r9, r10) := H
  have A9 := Aside0.mk A90
  clear A90
  replace H := Option.bind_eq_some_iff.mp H
  obtain ⟨⟨t150, t151, t152⟩, A100, H⟩ := H
  replace H : ((spec_l01Below.f t123 t151 t152 18).bind fun bt153 => ((spec_l01Below.f t123 bt153.2.1 bt153.2.2 18).bind fun bt156 => (some (t127, t130, wrap64 (t127 + t134), wrap64 (t130 + t137), t140, t143, wrap64 (t140 + t147), wrap64 (t143 + t150), bt153.1, bt156.1)))) = some (r1, r2, r3, r4, r5, r6, r7, r8, r9, r10) := H
  have A10 := Aside0.mk A100
  clear A100
  replace H := Option.bind_eq_some_iff.mp H
  obtain ⟨⟨t153, t154, t155⟩, A110, H⟩ := H
  replace H : ((spec_l01Below.f t123 t154 t155 18).bind fun bt156 => (some (t127, t130, wrap64 (t127 + t134), wrap64 (t130 + t137), t140, t143, wrap64 (t140 + t147), wrap64 (t143 + t150), t153, bt156.1))) = some (r1, r2, r3, r4, r5, r6, r7, r8, r9, r10) := H
  have A11 := Aside0.mk A110
  clear A110
  replace H := Option.bind_eq_some_iff.mp H
  obtain ⟨⟨t156, t157, t158⟩, A120, H⟩ := H
  replace H : (some (t127, t130, wrap64 (t127 + t134), wrap64 (t130 + t137), t140, t143, wrap64 (t140 + t147), wrap64 (t143 + t150), t153, t156)) = some (r1, r2, r3, r4, r5, r6, r7, r8, r9, r10) := H
  have A12 := Aside0.mk A120
  clear A120
  simp only [Option.some.injEq, Prod.mk.injEq] at H
  obtain ⟨rfl, rfl, rfl, rfl, rfl, rfl, rfl, rfl, rfl, rfl⟩ := H
  go_enter Try.func18, Try.ntmps18
  try go_wp2_with (first | ((with_reducible refine gate_dst (N := 2) rfl ?_); refine box_event ?hg (N := 2) ?hd (cs := #[.int .i64 0, .int .i64 0, .int .i64 0, .int .i64 0]) (t := 34) ?hr ?_; (case hd => rfl); (case hg => rfl); (case hr => first | (go_simp; done) | (go_simp; rfl)); intro gb120 hg w13 hbox hb; have n0_ := Aside0.mk (below_step (by repeat (first | (with_reducible first | exact HB.out | apply below_alloc | apply pw_below_drewN | apply below_drew1) | exact HB.out)) hb); have n1_ := Aside0.mk (hbox); have n2_ := Aside0.mk ((by rw [hg]; exact (below_size (by repeat (first | (with_reducible first | exact HB.out | apply below_alloc | apply pw_below_drewN | apply below_drew1) | exact HB.out))) : w.heap.size ≤ gb120)); have n3_ := Aside0.mk ((by rw [hg]; exact (below_size (by repeat (first | (with_reducible first | exact HB.out | apply below_alloc | apply pw_below_drewN | apply below_drew1) | exact HB.out))) : w.heap.size ≤ gb120)); clear HB; have HB := n0_; have BK120 := n1_; have GW120 := n2_; have GE120 := n3_; clear n0_ n1_ n2_ n3_; clear hb hbox hg) | ((with_reducible refine gate_dst (N := 3) rfl ?_); refine box_event ?hg (N := 3) ?hd (cs := #[.int .i64 0, .int .i64 0, .int .i64 0, .int .i64 0]) (t := 34) ?hr ?_; (case hd => rfl); (case hg => rfl); (case hr => first | (go_simp; done) | (go_simp; rfl)); intro gb121 hg w14 hbox hb; have n0_ := Aside0.mk (blk_below (g := gb120) (o := .cells #[.int .i64 0, .int .i64 0, .int .i64 0, .int .i64 0] 34 (0, 0)) (by (with_reducible repeat (first | refine blk_drewN ?_ _ | refine blk_drew ?_ | refine blk_alloc ?_ _)); exact BK120.out) hb); have n1_ := Aside0.mk (below_step (by repeat (first | (with_reducible first | exact HB.out | apply below_alloc | apply pw_below_drewN | apply below_drew1 | refine below_set ?_ GE120.out) | exact HB.out)) hb); have n2_ := Aside0.mk (hbox); have n3_ := Aside0.mk ((by rw [hg]; exact (below_size (by repeat (first | (with_reducible first | exact HB.out | apply below_alloc | apply pw_below_drewN | apply below_drew1 | refine below_set ?_ GE120.out) | exact HB.out))) : w.heap.size ≤ gb121)); have n4_ := Aside0.mk ((by rw [hg]; exact (below_size (by repeat (first | (with_reducible first | exact HB.out | apply below_alloc | apply pw_below_drewN | apply below_drew1 | refine below_set ?_ GE120.out) | exact HB.out))) : w.heap.size ≤ gb121)); have n5_ := Aside0.mk ((by rw [hg]; exact Nat.ne_of_lt (blk_lt (g := gb120) (o := .cells #[.int .i64 0, .int .i64 0, .int .i64 0, .int .i64 0] 34 (0, 0)) (by (with_reducible repeat (first | refine blk_drewN ?_ _ | refine blk_drew ?_ | refine blk_alloc ?_ _)); exact BK120.out)) : gb120 ≠ gb121)); have n6_ := Aside0.mk ((by rw [hg]; exact Nat.ne_of_gt (blk_lt (g := gb120) (o := .cells #[.int .i64 0, .int .i64 0, .int .i64 0, .int .i64 0] 34 (0, 0)) (by (with_reducible repeat (first | refine blk_drewN ?_ _ | refine blk_drew ?_ | refine blk_alloc ?_ _)); exact BK120.out)) : gb121 ≠ gb120)); clear BK120; clear HB; have BK120 := n0_; have HB := n1_; have BK121 := n2_; have GW121 := n3_; have GE121 := n4_; have NB120_121 := n5_; have NB121_120 := n6_; clear n0_ n1_ n2_ n3_ n4_ n5_ n6_; clear hb hbox hg) | ((with_reducible refine gate_dst (N := 4) rfl ?_); refine box_event ?hg (N := 4) ?hd (cs := #[.int .i64 0, .int .i64 0]) (t := 36) ?hr ?_; (case hd => rfl); (case hg => rfl); (case hr => first | (go_simp; done) | (go_simp; rfl)); intro gb122 hg w15 hbox hb; have n0_ := Aside0.mk (blk_below (g := gb120) (o := .cells #[.int .i64 0, .int .i64 0, .int .i64 0, .int .i64 0] 34 (0, 0)) (by (with_reducible repeat (first | refine blk_drewN ?_ _ | refine blk_drew ?_ | refine blk_alloc ?_ _)); exact BK120.out) hb); have n1_ := Aside0.mk (blk_below (g := gb121) (o := .cells #[.int .i64 0, .int .i64 0, .int .i64 0, .int .i64 0] 34 (0, 0)) (by (with_reducible repeat (first | refine blk_drewN ?_ _ | refine blk_drew ?_ | refine blk_alloc ?_ _)); exact BK121.out) hb); have n2_ := Aside0.mk (below_step (by repeat (first | (with_reducible first | exact HB.out | apply below_alloc | apply pw_below_drewN | apply below_drew1 | refine below_set ?_ GE120.out | refine below_set ?_ GE121.out) | exact HB.out)) hb); have n3_ := Aside0.mk (hbox); have n4_ := Aside0.mk ((by rw [hg]; exact (below_size (by repeat (first | (with_reducible first | exact HB.out | apply below_alloc | apply pw_below_drewN | apply below_drew1 | refine below_set ?_ GE120.out | refine below_set ?_ GE121.out) | exact HB.out))) : w.heap.size ≤ gb122)); have n5_ := Aside0.mk ((by rw [hg]; exact (below_size (by repeat (first | (with_reducible first | exact HB.out | apply below_alloc | apply pw_below_drewN | apply below_drew1 | refine below_set ?_ GE120.out | refine below_set ?_ GE121.out) | exact HB.out))) : w.heap.size ≤ gb122)); have n6_ := Aside0.mk ((by rw [hg]; exact Nat.ne_of_lt (blk_lt (g := gb120) (o := .cells #[.int .i64 0, .int .i64 0, .int .i64 0, .int .i64 0] 34 (0, 0)) (by (with_reducible repeat (first | refine blk_drewN ?_ _ | refine blk_drew ?_ | refine blk_alloc ?_ _)); exact BK120.out)) : gb120 ≠ gb122)); have n7_ := Aside0.mk ((by rw [hg]; exact Nat.ne_of_gt (blk_lt (g := gb120) (o := .cells #[.int .i64 0, .int .i64 0, .int .i64 0, .int .i64 0] 34 (0, 0)) (by (with_reducible repeat (first | refine blk_drewN ?_ _ | refine blk_drew ?_ | refine blk_alloc ?_ _)); exact BK120.out)) : gb122 ≠ gb120)); have n8_ := Aside0.mk ((by rw [hg]; exact Nat.ne_of_lt (blk_lt (g := gb121) (o := .cells #[.int .i64 0, .int .i64 0, .int .i64 0, .int .i64 0] 34 (0, 0)) (by (with_reducible repeat (first | refine blk_drewN ?_ _ | refine blk_drew ?_ | refine blk_alloc ?_ _)); exact BK121.out)) : gb121 ≠ gb122)); have n9_ := Aside0.mk ((by rw [hg]; exact Nat.ne_of_gt (blk_lt (g := gb121) (o := .cells #[.int .i64 0, .int .i64 0, .int .i64 0, .int .i64 0] 34 (0, 0)) (by (with_reducible repeat (first | refine blk_drewN ?_ _ | refine blk_drew ?_ | refine blk_alloc ?_ _)); exact BK121.out)) : gb122 ≠ gb121)); clear BK120; clear BK121; clear HB; have BK120 := n0_; have BK121 := n1_; have HB := n2_; have BK122 := n3_; have GW122 := n4_; have GE122 := n5_; have NB120_122 := n6_; have NB122_120 := n7_; have NB121_122 := n8_; have NB122_121 := n9_; clear n0_ n1_ n2_ n3_ n4_ n5_ n6_ n7_ n8_ n9_; clear hb hbox hg) | ((with_reducible refine gate_callee (f := 27) rfl ?_); refine goesL_ (some 9) rfl rfl Try.func27 (by kernel_rfl) rfl #[.slice A0 l0.length c0] rfl (by (try simp only [List.map_toArray, List.map_cons, List.map_nil]); first | done | rfl | (simp only [List.length_drop, List.length_take]; rfl)) ?_; (with_reducible refine (spec_l01New.calls k _ _ l0 t123 t124 t125 w _ ?side1 ?side2 ?side3 A2.out).mono ?_); (case side1 => repeat (first | (with_reducible first | exact HB.out | apply below_alloc | apply pw_below_drewN | apply below_drew1 | refine below_set ?_ GE120.out | refine below_set ?_ GE121.out | refine below_set ?_ GE122.out) | exact HB.out)); (case side2 => exact HR0.out); (case side3 => exact HC0.out); rintro e w16 ⟨g126, rfl, hi, hb, hb2⟩; refine ⟨_, rfl, ?_⟩; have n0_ := Aside0.mk (blk_below (g := gb120) (o := .cells #[.int .i64 0, .int .i64 0, .int .i64 0, .int .i64 0] 34 (0, 0)) (by (with_reducible repeat (first | refine blk_drewN ?_ _ | refine blk_drew ?_ | refine blk_alloc ?_ _)); exact BK120.out) hb2); have n1_ := Aside0.mk (blk_below (g := gb121) (o := .cells #[.int .i64 0, .int .i64 0, .int .i64 0, .int .i64 0] 34 (0, 0)) (by (with_reducible repeat (first | refine blk_drewN ?_ _ | refine blk_drew ?_ | refine blk_alloc ?_ _)); exact BK121.out) hb2); have n2_ := Aside0.mk (blk_below (g := gb122) (o := .cells #[.int .i64 0, .int .i64 0] 36 (0, 0)) (by (with_reducible repeat (first | refine blk_drewN ?_ _ | refine blk_drew ?_ | refine blk_alloc ?_ _)); exact BK122.out) hb2); have n3_ := Aside0.mk (hb); have n4_ := Aside0.mk (hi); have n5_ := Aside0.mk (IsS56.ne_blk hi (blk_below (g := gb120) (o := .cells #[.int .i64 0, .int .i64 0, .int .i64 0, .int .i64 0] 34 (0, 0)) (by (with_reducible repeat (first | refine blk_drewN ?_ _ | refine blk_drew ?_ | refine blk_alloc ?_ _)); exact BK120.out) hb2) (by decide)); have n6_ := Aside0.mk (Ne.symm (IsS56.ne_blk hi (blk_below (g := gb120) (o := .cells #[.int .i64 0, .int .i64 0, .int .i64 0, .int .i64 0] 34 (0, 0)) (by (with_reducible repeat (first | refine blk_drewN ?_ _ | refine blk_drew ?_ | refine blk_alloc ?_ _)); exact BK120.out) hb2) (by decide))); have n7_ := Aside0.mk (IsS56.ne_blk hi (blk_below (g := gb121) (o := .cells #[.int .i64 0, .int .i64 0, .int .i64 0, .int .i64 0] 34 (0, 0)) (by (with_reducible repeat (first | refine blk_drewN ?_ _ | refine blk_drew ?_ | refine blk_alloc ?_ _)); exact BK121.out) hb2) (by decide)); have n8_ := Aside0.mk (Ne.symm (IsS56.ne_blk hi (blk_below (g := gb121) (o := .cells #[.int .i64 0, .int .i64 0, .int .i64 0, .int .i64 0] 34 (0, 0)) (by (with_reducible repeat (first | refine blk_drewN ?_ _ | refine blk_drew ?_ | refine blk_alloc ?_ _)); exact BK121.out) hb2) (by decide))); have n9_ := Aside0.mk (IsS56.ne_blk hi (blk_below (g := gb122) (o := .cells #[.int .i64 0, .int .i64 0] 36 (0, 0)) (by (with_reducible repeat (first | refine blk_drewN ?_ _ | refine blk_drew ?_ | refine blk_alloc ?_ _)); exact BK122.out) hb2) (by decide)); have n10_ := Aside0.mk (Ne.symm (IsS56.ne_blk hi (blk_below (g := gb122) (o := .cells #[.int .i64 0, .int .i64 0] 36 (0, 0)) (by (with_reducible repeat (first | refine blk_drewN ?_ _ | refine blk_drew ?_ | refine blk_alloc ?_ _)); exact BK122.out) hb2) (by decide))); clear BK120; clear BK121; clear BK122; clear HB; have BK120 := n0_; have BK121 := n1_; have BK122 := n2_; have HB := n3_; have HI126 := n4_; have NB126_120 := n5_; have NB120_126 := n6_; have NB126_121 := n7_; have NB121_126 := n8_; have NB126_122 := n9_; have NB122_126 := n10_; clear n0_ n1_ n2_ n3_ n4_ n5_ n6_ n7_ n8_ n9_ n10_; (try clear hb); (try clear hb2); (try clear hk); (try clear hi)) | ((with_reducible refine gate_callee (f := 29) rfl ?_); refine goesL_ (some 11) rfl rfl Try.func29 (by kernel_rfl) rfl #[.pointer (some ⟨g126, 0, none⟩), .int .i64 9] rfl (by (try simp only [List.map_toArray, List.map_cons, List.map_nil]); first | done | rfl | (simp only [List.length_drop, List.length_take]; rfl)) ?_; (with_reducible refine (spec_l01Below.calls g126 t123 t124 t125 9 t127 t128 t129 w _ ?side1 ?side2 A3.out).mono ?_); (case side1 => repeat (first | (with_reducible first | exact HI126.out | apply IsS56.alloc | apply IsS56.drewN | apply IsS56.drew | apply IsS56.set_1 | apply IsS56.set_2 | refine IsS56.far ?_ NB126_120.out _ | refine IsS56.far ?_ NB126_121.out _ | refine IsS56.far ?_ NB126_122.out _) | exact HI126.out)); (case side2 => repeat (first | (with_reducible first | exact HB.out | apply below_alloc | apply pw_below_drewN | apply below_drew1 | refine below_set ?_ (IsS56.ge HI126.out) | refine below_set ?_ GE120.out | refine below_set ?_ GE121.out | refine below_set ?_ GE122.out) | exact HB.out)); rintro e w17 ⟨rfl, hi, hb, hk⟩; refine ⟨_, rfl, ?_⟩; have n0_ := Aside0.mk (KeepBut.blk hk (g' := gb120) (o := .cells #[.int .i64 0, .int .i64 0, .int .i64 0, .int .i64 0] 34 (0, 0)) (by (with_reducible repeat (first | refine blk_drewN ?_ _ | refine blk_drew ?_ | refine blk_alloc ?_ _)); exact BK120.out) NB120_126.out (by simp)); have n1_ := Aside0.mk (KeepBut.blk hk (g' := gb121) (o := .cells #[.int .i64 0, .int .i64 0, .int .i64 0, .int .i64 0] 34 (0, 0)) (by (with_reducible repeat (first | refine blk_drewN ?_ _ | refine blk_drew ?_ | refine blk_alloc ?_ _)); exact BK121.out) NB121_126.out (by simp)); have n2_ := Aside0.mk (KeepBut.blk hk (g' := gb122) (o := .cells #[.int .i64 0, .int .i64 0] 36 (0, 0)) (by (with_reducible repeat (first | refine blk_drewN ?_ _ | refine blk_drew ?_ | refine blk_alloc ?_ _)); exact BK122.out) NB122_126.out (by simp)); have n3_ := Aside0.mk (hb); have n4_ := Aside0.mk (hi); clear BK120; clear BK121; clear BK122; clear HB; clear HI126; have BK120 := n0_; have BK121 := n1_; have BK122 := n2_; have HB := n3_; have HI126 := n4_; clear n0_ n1_ n2_ n3_ n4_; (try clear hb); (try clear hb2); (try clear hk); (try clear hi)) | ((with_reducible refine gate_callee (f := 29) rfl ?_); refine goesL_ (some 13) rfl rfl Try.func29 (by kernel_rfl) rfl #[.pointer (some ⟨g126, 0, none⟩), .int .i64 9] rfl (by (try simp only [List.map_toArray, List.map_cons, List.map_nil]); first | done | rfl | (simp only [List.length_drop, List.length_take]; rfl)) ?_; (with_reducible refine (spec_l01Below.calls g126 t123 t128 t129 9 t130 t131 t132 w _ ?side1 ?side2 A4.out).mono ?_); (case side1 => repeat (first | (with_reducible first | exact HI126.out | apply IsS56.alloc | apply IsS56.drewN | apply IsS56.drew | apply IsS56.set_1 | apply IsS56.set_2 | refine IsS56.far ?_ NB126_120.out _ | refine IsS56.far ?_ NB126_121.out _ | refine IsS56.far ?_ NB126_122.out _) | exact HI126.out)); (case side2 => repeat (first | (with_reducible first | exact HB.out | apply below_alloc | apply pw_below_drewN | apply below_drew1 | refine below_set ?_ (IsS56.ge HI126.out) | refine below_set ?_ GE120.out | refine below_set ?_ GE121.out | refine below_set ?_ GE122.out) | exact HB.out)); rintro e w18 ⟨rfl, hi, hb, hk⟩; refine ⟨_, rfl, ?_⟩; have n0_ := Aside0.mk (KeepBut.blk hk (g' := gb120) (o := .cells #[.int .i64 0, .int .i64 0, .int .i64 0, .int .i64 0] 34 (0, 0)) (by (with_reducible repeat (first | refine blk_drewN ?_ _ | refine blk_drew ?_ | refine blk_alloc ?_ _)); exact BK120.out) NB120_126.out (by simp)); have n1_ := Aside0.mk (KeepBut.blk hk (g' := gb121) (o := .cells #[.int .i64 0, .int .i64 0, .int .i64 0, .int .i64 0] 34 (0, 0)) (by (with_reducible repeat (first | refine blk_drewN ?_ _ | refine blk_drew ?_ | refine blk_alloc ?_ _)); exact BK121.out) NB121_126.out (by simp)); have n2_ := Aside0.mk (KeepBut.blk hk (g' := gb122) (o := .cells #[.int .i64 0, .int .i64 0] 36 (0, 0)) (by (with_reducible repeat (first | refine blk_drewN ?_ _ | refine blk_drew ?_ | refine blk_alloc ?_ _)); exact BK122.out) NB122_126.out (by simp)); have n3_ := Aside0.mk (hb); have n4_ := Aside0.mk (hi); clear BK120; clear BK121; clear BK122; clear HB; clear HI126; have BK120 := n0_; have BK121 := n1_; have BK122 := n2_; have HB := n3_; have HI126 := n4_; clear n0_ n1_ n2_ n3_ n4_; (try clear hb); (try clear hb2); (try clear hk); (try clear hi)) | ((with_reducible refine gate_dst (N := 6) rfl ?_); refine box_event ?hg (N := 6) ?hd (cs := #[.int .i64 0, .int .i64 0, .int .i64 0, .int .i64 0]) (t := 34) ?hr ?_; (case hd => rfl); (case hg => rfl); (case hr => first | (go_simp; done) | (go_simp; rfl)); intro gb133 hg w19 hbox hb; have n0_ := Aside0.mk (blk_below (g := gb120) (o := .cells #[.int .i64 0, .int .i64 0, .int .i64 0, .int .i64 0] 34 (0, 0)) (by (with_reducible repeat (first | refine blk_drewN ?_ _ | refine blk_drew ?_ | refine blk_alloc ?_ _)); exact BK120.out) hb); have n1_ := Aside0.mk (blk_below (g := gb121) (o := .cells #[.int .i64 0, .int .i64 0, .int .i64 0, .int .i64 0] 34 (0, 0)) (by (with_reducible repeat (first | refine blk_drewN ?_ _ | refine blk_drew ?_ | refine blk_alloc ?_ _)); exact BK121.out) hb); have n2_ := Aside0.mk (blk_below (g := gb122) (o := .cells #[.int .i64 0, .int .i64 0] 36 (0, 0)) (by (with_reducible repeat (first | refine blk_drewN ?_ _ | refine blk_drew ?_ | refine blk_alloc ?_ _)); exact BK122.out) hb); have n3_ := Aside0.mk (IsS56.below (by repeat (first | (with_reducible first | exact HI126.out | apply IsS56.alloc | apply IsS56.drewN | apply IsS56.drew | apply IsS56.set_1 | apply IsS56.set_2 | refine IsS56.far ?_ NB126_120.out _ | refine IsS56.far ?_ NB126_121.out _ | refine IsS56.far ?_ NB126_122.out _) | exact HI126.out)) hb); have n4_ := Aside0.mk (below_step (by repeat (first | (with_reducible first | exact HB.out | apply below_alloc | apply pw_below_drewN | apply below_drew1 | refine below_set ?_ (IsS56.ge HI126.out) | refine below_set ?_ GE120.out | refine below_set ?_ GE121.out | refine below_set ?_ GE122.out) | exact HB.out)) hb); have n5_ := Aside0.mk (hbox); have n6_ := Aside0.mk ((by rw [hg]; exact (below_size (by repeat (first | (with_reducible first | exact HB.out | apply below_alloc | apply pw_below_drewN | apply below_drew1 | refine below_set ?_ (IsS56.ge HI126.out) | refine below_set ?_ GE120.out | refine below_set ?_ GE121.out | refine below_set ?_ GE122.out) | exact HB.out))) : w.heap.size ≤ gb133)); have n7_ := Aside0.mk ((by rw [hg]; exact (below_size (by repeat (first | (with_reducible first | exact HB.out | apply below_alloc | apply pw_below_drewN | apply below_drew1 | refine below_set ?_ (IsS56.ge HI126.out) | refine below_set ?_ GE120.out | refine below_set ?_ GE121.out | refine below_set ?_ GE122.out) | exact HB.out))) : w.heap.size ≤ gb133)); have n8_ := Aside0.mk ((by rw [hg]; exact Nat.ne_of_lt (blk_lt (g := gb120) (o := .cells #[.int .i64 0, .int .i64 0, .int .i64 0, .int .i64 0] 34 (0, 0)) (by (with_reducible repeat (first | refine blk_drewN ?_ _ | refine blk_drew ?_ | refine blk_alloc ?_ _)); exact BK120.out)) : gb120 ≠ gb133)); have n9_ := Aside0.mk ((by rw [hg]; exact Nat.ne_of_gt (blk_lt (g := gb120) (o := .cells #[.int .i64 0, .int .i64 0, .int .i64 0, .int .i64 0] 34 (0, 0)) (by (with_reducible repeat (first | refine blk_drewN ?_ _ | refine blk_drew ?_ | refine blk_alloc ?_ _)); exact BK120.out)) : gb133 ≠ gb120)); have n10_ := Aside0.mk ((by rw [hg]; exact Nat.ne_of_lt (blk_lt (g := gb121) (o := .cells #[.int .i64 0, .int .i64 0, .int .i64 0, .int .i64 0] 34 (0, 0)) (by (with_reducible repeat (first | refine blk_drewN ?_ _ | refine blk_drew ?_ | refine blk_alloc ?_ _)); exact BK121.out)) : gb121 ≠ gb133)); have n11_ := Aside0.mk ((by rw [hg]; exact Nat.ne_of_gt (blk_lt (g := gb121) (o := .cells #[.int .i64 0, .int .i64 0, .int .i64 0, .int .i64 0] 34 (0, 0)) (by (with_reducible repeat (first | refine blk_drewN ?_ _ | refine blk_drew ?_ | refine blk_alloc ?_ _)); exact BK121.out)) : gb133 ≠ gb121)); have n12_ := Aside0.mk ((by rw [hg]; exact Nat.ne_of_lt (blk_lt (g := gb122) (o := .cells #[.int .i64 0, .int .i64 0] 36 (0, 0)) (by (with_reducible repeat (first | refine blk_drewN ?_ _ | refine blk_drew ?_ | refine blk_alloc ?_ _)); exact BK122.out)) : gb122 ≠ gb133)); have n13_ := Aside0.mk ((by rw [hg]; exact Nat.ne_of_gt (blk_lt (g := gb122) (o := .cells #[.int .i64 0, .int .i64 0] 36 (0, 0)) (by (with_reducible repeat (first | refine blk_drewN ?_ _ | refine blk_drew ?_ | refine blk_alloc ?_ _)); exact BK122.out)) : gb133 ≠ gb122)); have n14_ := Aside0.mk ((by rw [hg]; exact Nat.ne_of_lt (IsS56.lt (show IsS56 w _ g126 t123 t131 t132 from by repeat (first | (with_reducible first | exact HI126.out | apply IsS56.alloc | apply IsS56.drewN | apply IsS56.drew | apply IsS56.set_1 | apply IsS56.set_2 | refine IsS56.far ?_ NB126_120.out _ | refine IsS56.far ?_ NB126_121.out _ | refine IsS56.far ?_ NB126_122.out _) | exact HI126.out))) : g126 ≠ gb133)); have n15_ := Aside0.mk ((by rw [hg]; exact Nat.ne_of_gt (IsS56.lt (show IsS56 w _ g126 t123 t131 t132 from by repeat (first | (with_reducible first | exact HI126.out | apply IsS56.alloc | apply IsS56.drewN | apply IsS56.drew | apply IsS56.set_1 | apply IsS56.set_2 | refine IsS56.far ?_ NB126_120.out _ | refine IsS56.far ?_ NB126_121.out _ | refine IsS56.far ?_ NB126_122.out _) | exact HI126.out))) : gb133 ≠ g126)); clear BK120; clear BK121; clear BK122; clear HI126; clear HB; have BK120 := n0_; have BK121 := n1_; have BK122 := n2_; have HI126 := n3_; have HB := n4_; have BK133 := n5_; have GW133 := n6_; have GE133 := n7_; have NB120_133 := n8_; have NB133_120 := n9_; have NB121_133 := n10_; have NB133_121 := n11_; have NB122_133 := n12_; have NB133_122 := n13_; have NB126_133 := n14_; have NB133_126 := n15_; clear n0_ n1_ n2_ n3_ n4_ n5_ n6_ n7_ n8_ n9_ n10_ n11_ n12_ n13_ n14_ n15_; clear hb hbox hg; have hnb20 := NB133_120.out; have hnc20 := NB120_133.out; have hnb21 := NB133_121.out; have hnc21 := NB121_133.out; have hnb22 := NB133_122.out; have hnc22 := NB122_133.out; have hnb23 := NB133_126.out; have hnc23 := NB126_133.out; have hcz24_0 : w19.cell? ⟨gb133, 0, none⟩ = some (.int .i64 0) := (blk_cell BK133.out 0).trans rfl; have hcz24_1 : w19.cell? ⟨gb133, 1, none⟩ = some (.int .i64 0) := (blk_cell BK133.out 1).trans rfl; have hcz24_2 : w19.cell? ⟨gb133, 2, none⟩ = some (.int .i64 0) := (blk_cell BK133.out 2).trans rfl; have hcz24_3 : w19.cell? ⟨gb133, 3, none⟩ = some (.int .i64 0) := (blk_cell BK133.out 3).trans rfl; have hfz24_0 := blk_frozen BK133.out 0; have hfz24_1 := blk_frozen BK133.out 1; have hfz24_2 := blk_frozen BK133.out 2; have hfz24_3 := blk_frozen BK133.out 3))
  refine Name.name_world ?_
  intro w25 hw25
  have n0_ : Aside0 (w25.heap[gb120]? = some (.cells #[.int .i64 0, .int .i64 0, .int .i64 0, .int .i64 0] 34 (0, 0))) := ⟨by rw [hw25]; (with_reducible repeat (first | refine blk_drewN ?_ _ | refine blk_drew ?_ | refine blk_alloc ?_ _)); refine blk_far ?_ NB120_133.out _; (with_reducible repeat (first | refine blk_drewN ?_ _ | refine blk_drew ?_ | refine blk_alloc ?_ _)); refine blk_far ?_ NB120_133.out _; (with_reducible repeat (first | refine blk_drewN ?_ _ | refine blk_drew ?_ | refine blk_alloc ?_ _)); refine blk_far ?_ NB120_133.out _; (with_reducible repeat (first | refine blk_drewN ?_ _ | refine blk_drew ?_ | refine blk_alloc ?_ _)); refine blk_far ?_ NB120_133.out _; (with_reducible repeat (first | refine blk_drewN ?_ _ | refine blk_drew ?_ | refine blk_alloc ?_ _)); exact BK120.out⟩
  have n1_ : Aside0 (w25.heap[gb121]? = some (.cells #[.int .i64 0, .int .i64 0, .int .i64 0, .int .i64 0] 34 (0, 0))) := ⟨by rw [hw25]; (with_reducible repeat (first | refine blk_drewN ?_ _ | refine blk_drew ?_ | refine blk_alloc ?_ _)); refine blk_far ?_ NB121_133.out _; (with_reducible repeat (first | refine blk_drewN ?_ _ | refine blk_drew ?_ | refine blk_alloc ?_ _)); refine blk_far ?_ NB121_133.out _; (with_reducible repeat (first | refine blk_drewN ?_ _ | refine blk_drew ?_ | refine blk_alloc ?_ _)); refine blk_far ?_ NB121_133.out _; (with_reducible repeat (first | refine blk_drewN ?_ _ | refine blk_drew ?_ | refine blk_alloc ?_ _)); refine blk_far ?_ NB121_133.out _; (with_reducible repeat (first | refine blk_drewN ?_ _ | refine blk_drew ?_ | refine blk_alloc ?_ _)); exact BK121.out⟩
  have n2_ : Aside0 (w25.heap[gb122]? = some (.cells #[.int .i64 0, .int .i64 0] 36 (0, 0))) := ⟨by rw [hw25]; (with_reducible repeat (first | refine blk_drewN ?_ _ | refine blk_drew ?_ | refine blk_alloc ?_ _)); refine blk_far ?_ NB122_133.out _; (with_reducible repeat (first | refine blk_drewN ?_ _ | refine blk_drew ?_ | refine blk_alloc ?_ _)); refine blk_far ?_ NB122_133.out _; (with_reducible repeat (first | refine blk_drewN ?_ _ | refine blk_drew ?_ | refine blk_alloc ?_ _)); refine blk_far ?_ NB122_133.out _; (with_reducible repeat (first | refine blk_drewN ?_ _ | refine blk_drew ?_ | refine blk_alloc ?_ _)); refine blk_far ?_ NB122_133.out _; (with_reducible repeat (first | refine blk_drewN ?_ _ | refine blk_drew ?_ | refine blk_alloc ?_ _)); exact BK122.out⟩
  have n3_ : Aside0 (w25.heap[gb133]? = some (.cells #[.int .i64 t127, .int .i64 t130, .int .i64 0, .int .i64 0] 34 (0, 0))) := ⟨by rw [hw25]; (with_reducible repeat (first | refine blk_drewN ?_ _ | refine blk_drew ?_ | refine blk_alloc ?_ _)); refine blk_put (cs := #[.int .i64 t127, .int .i64 t130, .int .i64 0, .int .i64 0]) ?_ 3 _ rfl; (with_reducible repeat (first | refine blk_drewN ?_ _ | refine blk_drew ?_ | refine blk_alloc ?_ _)); refine blk_put (cs := #[.int .i64 t127, .int .i64 t130, .int .i64 0, .int .i64 0]) ?_ 2 _ rfl; (with_reducible repeat (first | refine blk_drewN ?_ _ | refine blk_drew ?_ | refine blk_alloc ?_ _)); refine blk_put (cs := #[.int .i64 t127, .int .i64 0, .int .i64 0, .int .i64 0]) ?_ 1 _ rfl; (with_reducible repeat (first | refine blk_drewN ?_ _ | refine blk_drew ?_ | refine blk_alloc ?_ _)); refine blk_put (cs := #[.int .i64 0, .int .i64 0, .int .i64 0, .int .i64 0]) ?_ 0 _ rfl; (with_reducible repeat (first | refine blk_drewN ?_ _ | refine blk_drew ?_ | refine blk_alloc ?_ _)); exact BK133.out⟩
  have n4_ : Aside0 (IsS56 w w25 g126 t123 t131 t132) := ⟨by rw [hw25]; repeat (first | (with_reducible first | exact HI126.out | apply IsS56.alloc | apply IsS56.drewN | apply IsS56.drew | apply IsS56.set_1 | apply IsS56.set_2 | refine IsS56.far ?_ NB126_120.out _ | refine IsS56.far ?_ NB126_121.out _ | refine IsS56.far ?_ NB126_122.out _ | refine IsS56.far ?_ NB126_133.out _) | exact HI126.out)⟩
  have n5_ : Aside0 (Below w.heap.size w w25) := ⟨by rw [hw25]; repeat (first | (with_reducible first | exact HB.out | apply below_alloc | apply pw_below_drewN | apply below_drew1 | refine below_set ?_ (IsS56.ge HI126.out) | refine below_set ?_ GE120.out | refine below_set ?_ GE121.out | refine below_set ?_ GE122.out | refine below_set ?_ GE133.out) | exact HB.out)⟩
  (try clear BK120)
  (try clear BK121)
  (try clear BK122)
  (try clear BK133)
  (try clear HI126)
  (try clear HB)
  clear hw25
  have BK120 := n0_
  have BK121 := n1_
  have BK122 := n2_
  have BK133 := n3_
  have HI126 := n4_
  have HB := n5_
  clear n0_ n1_ n2_ n3_ n4_ n5_
  have n0_ := Aside0.mk (blk_drew BK120.out)
  have n1_ := Aside0.mk (blk_drew BK121.out)
  have n2_ := Aside0.mk (blk_drew BK122.out)
  have n3_ := Aside0.mk (blk_drew BK133.out)
  have n4_ := Aside0.mk (IsS56.drew HI126.out)
  have n5_ := Aside0.mk (below_drew1 HB.out)
  clear BK120
  clear BK121
  clear BK122
  clear BK133
  clear HI126
  clear HB
  have BK120 := n0_
  have BK121 := n1_
  have BK122 := n2_
  have BK133 := n3_
  have HI126 := n4_
  have HB := n5_
  clear n0_ n1_ n2_ n3_ n4_ n5_
  refine start_ (n := 7) (S := fun w' => w'.cell? ⟨gb133, 0, none⟩ = some (.int .i64 t127) ∧ w'.cell? ⟨gb133, 1, none⟩ = some (.int .i64 t130) ∧ w'.cell? ⟨gb133, 2, none⟩ = some (.int .i64 0) ∧ w'.cell? ⟨gb133, 3, none⟩ = some (.int .i64 0)) (ds := [6]) #[false, false, false, false, false, false, false] (by kernel_rfl) rfl rfl ⟨(blk_cell BK133.out 0).trans rfl, (blk_cell BK133.out 1).trans rfl, (blk_cell BK133.out 2).trans rfl, (blk_cell BK133.out 3).trans rfl⟩ (fun hHeld => ?_)
  generalize w25.drew = w26 at BK120 BK121 BK122 BK133 HI126 HB hHeld ⊢
  refine pure_ (i := 0) (N := some 15) (v := ?_) (a' := ?_) #[true, false, false, false, false, false, false] rfl rfl (by kernel_rfl) (fun _ _ _ h => h) (Or.inl ⟨by rfl, ?_⟩) ?_ ?_
  rotate_left
  · intro w'
    go_simp
    with_reducible rfl
  rotate_left
  · simp only [Act.put, List.setIfInBounds_toArray, List.set_cons_zero, List.set_cons_succ, i64_w, i32_w]
    rfl
  refine pure_ (i := 2) (N := some 17) (v := ?_) (a' := ?_) #[true, false, true, false, false, false, false] rfl rfl (by kernel_rfl) (fun _ _ _ h => h) (Or.inl ⟨by rfl, ?_⟩) ?_ ?_
  rotate_left
  · intro w'
    go_simp
    with_reducible rfl
  rotate_left
  · simp only [Act.put, List.setIfInBounds_toArray, List.set_cons_zero, List.set_cons_succ, i64_w, i32_w]
    rfl
  refine take_ (i := 1) (N := some 16) (v := ?_) (a' := ?_) #[true, true, true, false, false, false, false] rfl rfl (by kernel_rfl) (fun _ _ _ h => h) (Or.inl ⟨by rfl, ?_⟩) hHeld ?_ ?_
  rotate_left
  · rintro w' ⟨s0, s1, s2, s3⟩
    go_simp
    with_reducible rfl
  rotate_left
  · simp only [Act.put, List.setIfInBounds_toArray, List.set_cons_zero, List.set_cons_succ, i64_w, i32_w]
    rfl
  refine one_ (i := 3) (N := some 18) #[true, true, true, true, false, false, false] rfl rfl (by kernel_rfl) (by decide) (fun K hK => ?_)
  refine goes_ Try.func29 (by kernel_rfl) rfl #[.pointer (some ⟨g126, 0, none⟩), .int .i64 9] (by rfl) rfl rfl (by (try simp only [List.map_toArray, List.map_cons, List.map_nil]); first | done | rfl | (simp only [List.length_drop, List.length_take]; rfl)) ?_
  with_reducible refine (spec_l01Below.calls g126 t123 t131 t132 9 t134 t135 t136 w _ ?side1 ?side2 A5.out).mono ?_
  (case side1 => repeat (first | (with_reducible first | exact HI126.out | apply IsS56.alloc | apply IsS56.drewN | apply IsS56.drew | apply IsS56.set_1 | apply IsS56.set_2 | refine IsS56.far ?_ NB126_120.out _ | refine IsS56.far ?_ NB126_121.out _ | refine IsS56.far ?_ NB126_122.out _ | refine IsS56.far ?_ NB126_133.out _) | exact HI126.out))
  (case side2 => repeat (first | (with_reducible first | exact HB.out | apply below_alloc | apply pw_below_drewN | apply below_drew1 | refine below_set ?_ (IsS56.ge HI126.out) | refine below_set ?_ GE120.out | refine below_set ?_ GE121.out | refine below_set ?_ GE122.out | refine below_set ?_ GE133.out) | exact HB.out))
  rintro e w27 ⟨rfl, hi, hb, hk⟩
  refine ⟨_, rfl, ?_⟩
  have n0_ := Aside0.mk (KeepBut.blk hk (g' := gb120) (o := .cells #[.int .i64 0, .int .i64 0, .int .i64 0, .int .i64 0] 34 (0, 0)) (by (with_reducible repeat (first | refine blk_drewN ?_ _ | refine blk_drew ?_ | refine blk_alloc ?_ _)); exact BK120.out) NB120_126.out (by simp))
  have n1_ := Aside0.mk (KeepBut.blk hk (g' := gb121) (o := .cells #[.int .i64 0, .int .i64 0, .int .i64 0, .int .i64 0] 34 (0, 0)) (by (with_reducible repeat (first | refine blk_drewN ?_ _ | refine blk_drew ?_ | refine blk_alloc ?_ _)); exact BK121.out) NB121_126.out (by simp))
  have n2_ := Aside0.mk (KeepBut.blk hk (g' := gb122) (o := .cells #[.int .i64 0, .int .i64 0] 36 (0, 0)) (by (with_reducible repeat (first | refine blk_drewN ?_ _ | refine blk_drew ?_ | refine blk_alloc ?_ _)); exact BK122.out) NB122_126.out (by simp))
  have n3_ := Aside0.mk (KeepBut.blk hk (g' := gb133) (o := .cells #[.int .i64 t127, .int .i64 t130, .int .i64 0, .int .i64 0] 34 (0, 0)) (by (with_reducible repeat (first | refine blk_drewN ?_ _ | refine blk_drew ?_ | refine blk_alloc ?_ _)); exact BK133.out) NB133_126.out (by simp))
  have n4_ := Aside0.mk (hb)
  have n5_ := Aside0.mk (hi)
  clear BK120
  clear BK121
  clear BK122
  clear BK133
  clear HB
  clear HI126
  have BK120 := n0_
  have BK121 := n1_
  have BK122 := n2_
  have BK133 := n3_
  have HB := n4_
  have HI126 := n5_
  clear n0_ n1_ n2_ n3_ n4_ n5_
  (try clear hb)
  (try clear hb2)
  (try clear hk)
  (try clear hi)
  refine hK.out _ _ ⟨(blk_cell BK133.out 0).trans rfl, (blk_cell BK133.out 1).trans rfl, (blk_cell BK133.out 2).trans rfl, (blk_cell BK133.out 3).trans rfl⟩ (fun hHeld => ?_)
  clear hK K
  refine norm_ (a' := ?_) ?_ ?_
  rotate_left
  · show Act.put _ (some 18) _ = _
    simp only [Act.put, List.setIfInBounds_toArray, List.set_cons_zero, List.set_cons_succ, i64_w, i32_w]
    rfl
  refine pure_ (i := 4) (N := some 19) (v := ?_) (a' := ?_) #[true, true, true, true, true, false, false] rfl rfl (by kernel_rfl) (fun _ _ _ h => h) (Or.inl ⟨by rfl, ?_⟩) ?_ ?_
  rotate_left
  · intro w'
    go_simp
    with_reducible rfl
  rotate_left
  · simp only [Act.put, List.setIfInBounds_toArray, List.set_cons_zero, List.set_cons_succ, i64_w, i32_w]
    rfl
  refine pure_ (i := 5) (N := some 20) (v := ?_) (a' := ?_) #[true, true, true, true, true, true, false] rfl rfl (by kernel_rfl) (fun _ _ _ h => h) (Or.inl ⟨by rfl, ?_⟩) ?_ ?_
  rotate_left
  · intro w'
    go_simp
    with_reducible rfl
  rotate_left
  · simp only [Act.put, List.setIfInBounds_toArray, List.set_cons_zero, List.set_cons_succ, i64_w, i32_w]
    rfl
  refine last_ (i := 6) (N := none) #[true, true, true, true, true, true, true] rfl rfl (by kernel_rfl) (by decide) (fun K hK => ?_)
  have hs28 : w27.cell? ⟨gb133, 2, none⟩ = some (.int .i64 0) := (blk_cell BK133.out 2).trans rfl
  have hfs28 := blk_frozen BK133.out 2
  have hns28_0 := NB120_133.out
  have hns28_1 := NB121_133.out
  have hns28_2 := NB122_133.out
  have hms28_0 := NB133_120.out
  have hms28_1 := NB133_121.out
  have hms28_2 := NB133_122.out
  refine skip_ (w1 := ?_) ?hw ?hn ?_ ?_; (case hw => kernel_rfl); (case hn => kernel_rfl)
  rotate_left
  · go_simp
    rfl
  refine hK.out _ _ ?_
  clear hK K
  refine done_ (by kernel_rfl) ?_
  try go_wp2
  refine Name.name_world ?_
  intro w29 hw29
  have n0_ : Aside0 (w29.heap[gb120]? = some (.cells #[.int .i64 0, .int .i64 0, .int .i64 0, .int .i64 0] 34 (0, 0))) := ⟨by rw [hw29]; (with_reducible repeat (first | refine blk_drewN ?_ _ | refine blk_drew ?_ | refine blk_alloc ?_ _)); refine blk_far ?_ NB120_133.out _; (with_reducible repeat (first | refine blk_drewN ?_ _ | refine blk_drew ?_ | refine blk_alloc ?_ _)); exact BK120.out⟩
  have n1_ : Aside0 (w29.heap[gb121]? = some (.cells #[.int .i64 0, .int .i64 0, .int .i64 0, .int .i64 0] 34 (0, 0))) := ⟨by rw [hw29]; (with_reducible repeat (first | refine blk_drewN ?_ _ | refine blk_drew ?_ | refine blk_alloc ?_ _)); refine blk_far ?_ NB121_133.out _; (with_reducible repeat (first | refine blk_drewN ?_ _ | refine blk_drew ?_ | refine blk_alloc ?_ _)); exact BK121.out⟩
  have n2_ : Aside0 (w29.heap[gb122]? = some (.cells #[.int .i64 0, .int .i64 0] 36 (0, 0))) := ⟨by rw [hw29]; (with_reducible repeat (first | refine blk_drewN ?_ _ | refine blk_drew ?_ | refine blk_alloc ?_ _)); refine blk_far ?_ NB122_133.out _; (with_reducible repeat (first | refine blk_drewN ?_ _ | refine blk_drew ?_ | refine blk_alloc ?_ _)); exact BK122.out⟩
  have n3_ : Aside0 (w29.heap[gb133]? = some (.cells #[.int .i64 t127, .int .i64 t130, .int .i64 (wrap64 (t127 + t134)), .int .i64 0] 34 (0, 0))) := ⟨by rw [hw29]; (with_reducible repeat (first | refine blk_drewN ?_ _ | refine blk_drew ?_ | refine blk_alloc ?_ _)); refine blk_put (cs := #[.int .i64 t127, .int .i64 t130, .int .i64 0, .int .i64 0]) ?_ 2 _ rfl; (with_reducible repeat (first | refine blk_drewN ?_ _ | refine blk_drew ?_ | refine blk_alloc ?_ _)); exact BK133.out⟩
  have n4_ : Aside0 (IsS56 w w29 g126 t123 t135 t136) := ⟨by rw [hw29]; repeat (first | (with_reducible first | exact HI126.out | apply IsS56.alloc | apply IsS56.drewN | apply IsS56.drew | apply IsS56.set_1 | apply IsS56.set_2 | refine IsS56.far ?_ NB126_120.out _ | refine IsS56.far ?_ NB126_121.out _ | refine IsS56.far ?_ NB126_122.out _ | refine IsS56.far ?_ NB126_133.out _) | exact HI126.out)⟩
  have n5_ : Aside0 (Below w.heap.size w w29) := ⟨by rw [hw29]; repeat (first | (with_reducible first | exact HB.out | apply below_alloc | apply pw_below_drewN | apply below_drew1 | refine below_set ?_ (IsS56.ge HI126.out) | refine below_set ?_ GE120.out | refine below_set ?_ GE121.out | refine below_set ?_ GE122.out | refine below_set ?_ GE133.out) | exact HB.out)⟩
  (try clear BK120)
  (try clear BK121)
  (try clear BK122)
  (try clear BK133)
  (try clear HI126)
  (try clear HB)
  clear hw29
  have BK120 := n0_
  have BK121 := n1_
  have BK122 := n2_
  have BK133 := n3_
  have HI126 := n4_
  have HB := n5_
  clear n0_ n1_ n2_ n3_ n4_ n5_
  have n0_ := Aside0.mk (blk_drew BK120.out)
  have n1_ := Aside0.mk (blk_drew BK121.out)
  have n2_ := Aside0.mk (blk_drew BK122.out)
  have n3_ := Aside0.mk (blk_drew BK133.out)
  have n4_ := Aside0.mk (IsS56.drew HI126.out)
  have n5_ := Aside0.mk (below_drew1 HB.out)
  clear BK120
  clear BK121
  clear BK122
  clear BK133
  clear HI126
  clear HB
  have BK120 := n0_
  have BK121 := n1_
  have BK122 := n2_
  have BK133 := n3_
  have HI126 := n4_
  have HB := n5_
  clear n0_ n1_ n2_ n3_ n4_ n5_
  refine start_ (n := 7) (S := fun w' => w'.cell? ⟨gb133, 0, none⟩ = some (.int .i64 t127) ∧ w'.cell? ⟨gb133, 1, none⟩ = some (.int .i64 t130) ∧ w'.cell? ⟨gb133, 2, none⟩ = some (.int .i64 (wrap64 (t127 + t134))) ∧ w'.cell? ⟨gb133, 3, none⟩ = some (.int .i64 0)) (ds := [6]) #[false, false, false, false, false, false, false] (by kernel_rfl) rfl rfl ⟨(blk_cell BK133.out 0).trans rfl, (blk_cell BK133.out 1).trans rfl, (blk_cell BK133.out 2).trans rfl, (blk_cell BK133.out 3).trans rfl⟩ (fun hHeld => ?_)
  generalize w29.drew = w30 at BK120 BK121 BK122 BK133 HI126 HB hHeld ⊢
  refine pure_ (i := 0) (N := some 21) (v := ?_) (a' := ?_) #[true, false, false, false, false, false, false] rfl rfl (by kernel_rfl) (fun _ _ _ h => h) (Or.inl ⟨by rfl, ?_⟩) ?_ ?_
  rotate_left
  · intro w'
    go_simp
    with_reducible rfl
  rotate_left
  · simp only [Act.put, List.setIfInBounds_toArray, List.set_cons_zero, List.set_cons_succ, i64_w, i32_w]
    rfl
  refine pure_ (i := 2) (N := some 23) (v := ?_) (a' := ?_) #[true, false, true, false, false, false, false] rfl rfl (by kernel_rfl) (fun _ _ _ h => h) (Or.inl ⟨by rfl, ?_⟩) ?_ ?_
  rotate_left
  · intro w'
    go_simp
    with_reducible rfl
  rotate_left
  · simp only [Act.put, List.setIfInBounds_toArray, List.set_cons_zero, List.set_cons_succ, i64_w, i32_w]
    rfl
  refine take_ (i := 1) (N := some 22) (v := ?_) (a' := ?_) #[true, true, true, false, false, false, false] rfl rfl (by kernel_rfl) (fun _ _ _ h => h) (Or.inl ⟨by rfl, ?_⟩) hHeld ?_ ?_
  rotate_left
  · rintro w' ⟨s0, s1, s2, s3⟩
    go_simp
    with_reducible rfl
  rotate_left
  · simp only [Act.put, List.setIfInBounds_toArray, List.set_cons_zero, List.set_cons_succ, i64_w, i32_w]
    rfl
  refine one_ (i := 3) (N := some 24) #[true, true, true, true, false, false, false] rfl rfl (by kernel_rfl) (by decide) (fun K hK => ?_)
  refine goes_ Try.func29 (by kernel_rfl) rfl #[.pointer (some ⟨g126, 0, none⟩), .int .i64 9] (by rfl) rfl rfl (by (try simp only [List.map_toArray, List.map_cons, List.map_nil]); first | done | rfl | (simp only [List.length_drop, List.length_take]; rfl)) ?_
  with_reducible refine (spec_l01Below.calls g126 t123 t135 t136 9 t137 t138 t139 w _ ?side1 ?side2 A6.out).mono ?_
  (case side1 => repeat (first | (with_reducible first | exact HI126.out | apply IsS56.alloc | apply IsS56.drewN | apply IsS56.drew | apply IsS56.set_1 | apply IsS56.set_2 | refine IsS56.far ?_ NB126_120.out _ | refine IsS56.far ?_ NB126_121.out _ | refine IsS56.far ?_ NB126_122.out _ | refine IsS56.far ?_ NB126_133.out _) | exact HI126.out))
  (case side2 => repeat (first | (with_reducible first | exact HB.out | apply below_alloc | apply pw_below_drewN | apply below_drew1 | refine below_set ?_ (IsS56.ge HI126.out) | refine below_set ?_ GE120.out | refine below_set ?_ GE121.out | refine below_set ?_ GE122.out | refine below_set ?_ GE133.out) | exact HB.out))
  rintro e w31 ⟨rfl, hi, hb, hk⟩
  refine ⟨_, rfl, ?_⟩
  have n0_ := Aside0.mk (KeepBut.blk hk (g' := gb120) (o := .cells #[.int .i64 0, .int .i64 0, .int .i64 0, .int .i64 0] 34 (0, 0)) (by (with_reducible repeat (first | refine blk_drewN ?_ _ | refine blk_drew ?_ | refine blk_alloc ?_ _)); exact BK120.out) NB120_126.out (by simp))
  have n1_ := Aside0.mk (KeepBut.blk hk (g' := gb121) (o := .cells #[.int .i64 0, .int .i64 0, .int .i64 0, .int .i64 0] 34 (0, 0)) (by (with_reducible repeat (first | refine blk_drewN ?_ _ | refine blk_drew ?_ | refine blk_alloc ?_ _)); exact BK121.out) NB121_126.out (by simp))
  have n2_ := Aside0.mk (KeepBut.blk hk (g' := gb122) (o := .cells #[.int .i64 0, .int .i64 0] 36 (0, 0)) (by (with_reducible repeat (first | refine blk_drewN ?_ _ | refine blk_drew ?_ | refine blk_alloc ?_ _)); exact BK122.out) NB122_126.out (by simp))
  have n3_ := Aside0.mk (KeepBut.blk hk (g' := gb133) (o := .cells #[.int .i64 t127, .int .i64 t130, .int .i64 (wrap64 (t127 + t134)), .int .i64 0] 34 (0, 0)) (by (with_reducible repeat (first | refine blk_drewN ?_ _ | refine blk_drew ?_ | refine blk_alloc ?_ _)); exact BK133.out) NB133_126.out (by simp))
  have n4_ := Aside0.mk (hb)
  have n5_ := Aside0.mk (hi)
  clear BK120
  clear BK121
  clear BK122
  clear BK133
  clear HB
  clear HI126
  have BK120 := n0_
  have BK121 := n1_
  have BK122 := n2_
  have BK133 := n3_
  have HB := n4_
  have HI126 := n5_
  clear n0_ n1_ n2_ n3_ n4_ n5_
  (try clear hb)
  (try clear hb2)
  (try clear hk)
  (try clear hi)
  refine hK.out _ _ ⟨(blk_cell BK133.out 0).trans rfl, (blk_cell BK133.out 1).trans rfl, (blk_cell BK133.out 2).trans rfl, (blk_cell BK133.out 3).trans rfl⟩ (fun hHeld => ?_)
  clear hK K
  refine norm_ (a' := ?_) ?_ ?_
  rotate_left
  · show Act.put _ (some 24) _ = _
    simp only [Act.put, List.setIfInBounds_toArray, List.set_cons_zero, List.set_cons_succ, i64_w, i32_w]
    rfl
  refine pure_ (i := 4) (N := some 25) (v := ?_) (a' := ?_) #[true, true, true, true, true, false, false] rfl rfl (by kernel_rfl) (fun _ _ _ h => h) (Or.inl ⟨by rfl, ?_⟩) ?_ ?_
  rotate_left
  · intro w'
    go_simp
    with_reducible rfl
  rotate_left
  · simp only [Act.put, List.setIfInBounds_toArray, List.set_cons_zero, List.set_cons_succ, i64_w, i32_w]
    rfl
  refine pure_ (i := 5) (N := some 26) (v := ?_) (a' := ?_) #[true, true, true, true, true, true, false] rfl rfl (by kernel_rfl) (fun _ _ _ h => h) (Or.inl ⟨by rfl, ?_⟩) ?_ ?_
  rotate_left
  · intro w'
    go_simp
    with_reducible rfl
  rotate_left
  · simp only [Act.put, List.setIfInBounds_toArray, List.set_cons_zero, List.set_cons_succ, i64_w, i32_w]
    rfl
  refine last_ (i := 6) (N := none) #[true, true, true, true, true, true, true] rfl rfl (by kernel_rfl) (by decide) (fun K hK => ?_)
  have hs32 : w31.cell? ⟨gb133, 3, none⟩ = some (.int .i64 0) := (blk_cell BK133.out 3).trans rfl
  have hfs32 := blk_frozen BK133.out 3
  have hns32_0 := NB120_133.out
  have hns32_1 := NB121_133.out
  have hns32_2 := NB122_133.out
  have hms32_0 := NB133_120.out
  have hms32_1 := NB133_121.out
  have hms32_2 := NB133_122.out
  refine skip_ (w1 := ?_) ?hw ?hn ?_ ?_; (case hw => kernel_rfl); (case hn => kernel_rfl)
  rotate_left
  · go_simp
    rfl
  refine hK.out _ _ ?_
  clear hK K
  refine done_ (by kernel_rfl) ?_
  try go_wp2_with (first | ((with_reducible refine gate_callee (f := 29) rfl ?_); refine goesL_ (some 28) rfl rfl Try.func29 (by kernel_rfl) rfl #[.pointer (some ⟨g126, 0, none⟩), .int .i64 9] rfl (by (try simp only [List.map_toArray, List.map_cons, List.map_nil]); first | done | rfl | (simp only [List.length_drop, List.length_take]; rfl)) ?_; (with_reducible refine (spec_l01Below.calls g126 t123 t138 t139 9 t140 t141 t142 w _ ?side1 ?side2 A7.out).mono ?_); (case side1 => repeat (first | (with_reducible first | exact HI126.out | apply IsS56.alloc | apply IsS56.drewN | apply IsS56.drew | apply IsS56.set_1 | apply IsS56.set_2 | refine IsS56.far ?_ NB126_120.out _ | refine IsS56.far ?_ NB126_121.out _ | refine IsS56.far ?_ NB126_122.out _ | refine IsS56.far ?_ NB126_133.out _) | exact HI126.out)); (case side2 => repeat (first | (with_reducible first | exact HB.out | apply below_alloc | apply pw_below_drewN | apply below_drew1 | refine below_set ?_ (IsS56.ge HI126.out) | refine below_set ?_ GE120.out | refine below_set ?_ GE121.out | refine below_set ?_ GE122.out | refine below_set ?_ GE133.out) | exact HB.out)); rintro e w33 ⟨rfl, hi, hb, hk⟩; refine ⟨_, rfl, ?_⟩; have n0_ := Aside0.mk (KeepBut.blk hk (g' := gb120) (o := .cells #[.int .i64 0, .int .i64 0, .int .i64 0, .int .i64 0] 34 (0, 0)) (by (with_reducible repeat (first | refine blk_drewN ?_ _ | refine blk_drew ?_ | refine blk_alloc ?_ _)); refine blk_far ?_ NB120_133.out _; (with_reducible repeat (first | refine blk_drewN ?_ _ | refine blk_drew ?_ | refine blk_alloc ?_ _)); exact BK120.out) NB120_126.out (by simp)); have n1_ := Aside0.mk (KeepBut.blk hk (g' := gb121) (o := .cells #[.int .i64 0, .int .i64 0, .int .i64 0, .int .i64 0] 34 (0, 0)) (by (with_reducible repeat (first | refine blk_drewN ?_ _ | refine blk_drew ?_ | refine blk_alloc ?_ _)); refine blk_far ?_ NB121_133.out _; (with_reducible repeat (first | refine blk_drewN ?_ _ | refine blk_drew ?_ | refine blk_alloc ?_ _)); exact BK121.out) NB121_126.out (by simp)); have n2_ := Aside0.mk (KeepBut.blk hk (g' := gb122) (o := .cells #[.int .i64 0, .int .i64 0] 36 (0, 0)) (by (with_reducible repeat (first | refine blk_drewN ?_ _ | refine blk_drew ?_ | refine blk_alloc ?_ _)); refine blk_far ?_ NB122_133.out _; (with_reducible repeat (first | refine blk_drewN ?_ _ | refine blk_drew ?_ | refine blk_alloc ?_ _)); exact BK122.out) NB122_126.out (by simp)); have n3_ := Aside0.mk (KeepBut.blk hk (g' := gb133) (o := .cells #[.int .i64 t127, .int .i64 t130, .int .i64 (wrap64 (t127 + t134)), .int .i64 (wrap64 (t130 + t137))] 34 (0, 0)) (by (with_reducible repeat (first | refine blk_drewN ?_ _ | refine blk_drew ?_ | refine blk_alloc ?_ _)); refine blk_put (cs := #[.int .i64 t127, .int .i64 t130, .int .i64 (wrap64 (t127 + t134)), .int .i64 0]) ?_ 3 _ rfl; (with_reducible repeat (first | refine blk_drewN ?_ _ | refine blk_drew ?_ | refine blk_alloc ?_ _)); exact BK133.out) NB133_126.out (by simp)); have n4_ := Aside0.mk (hb); have n5_ := Aside0.mk (hi); clear BK120; clear BK121; clear BK122; clear BK133; clear HB; clear HI126; have BK120 := n0_; have BK121 := n1_; have BK122 := n2_; have BK133 := n3_; have HB := n4_; have HI126 := n5_; clear n0_ n1_ n2_ n3_ n4_ n5_; (try clear hb); (try clear hb2); (try clear hk); (try clear hi)) | ((with_reducible refine gate_callee (f := 29) rfl ?_); refine goesL_ (some 30) rfl rfl Try.func29 (by kernel_rfl) rfl #[.pointer (some ⟨g126, 0, none⟩), .int .i64 9] rfl (by (try simp only [List.map_toArray, List.map_cons, List.map_nil]); first | done | rfl | (simp only [List.length_drop, List.length_take]; rfl)) ?_; (with_reducible refine (spec_l01Below.calls g126 t123 t141 t142 9 t143 t144 t145 w _ ?side1 ?side2 A8.out).mono ?_); (case side1 => repeat (first | (with_reducible first | exact HI126.out | apply IsS56.alloc | apply IsS56.drewN | apply IsS56.drew | apply IsS56.set_1 | apply IsS56.set_2 | refine IsS56.far ?_ NB126_120.out _ | refine IsS56.far ?_ NB126_121.out _ | refine IsS56.far ?_ NB126_122.out _ | refine IsS56.far ?_ NB126_133.out _) | exact HI126.out)); (case side2 => repeat (first | (with_reducible first | exact HB.out | apply below_alloc | apply pw_below_drewN | apply below_drew1 | refine below_set ?_ (IsS56.ge HI126.out) | refine below_set ?_ GE120.out | refine below_set ?_ GE121.out | refine below_set ?_ GE122.out | refine below_set ?_ GE133.out) | exact HB.out)); rintro e w34 ⟨rfl, hi, hb, hk⟩; refine ⟨_, rfl, ?_⟩; have n0_ := Aside0.mk (KeepBut.blk hk (g' := gb120) (o := .cells #[.int .i64 0, .int .i64 0, .int .i64 0, .int .i64 0] 34 (0, 0)) (by (with_reducible repeat (first | refine blk_drewN ?_ _ | refine blk_drew ?_ | refine blk_alloc ?_ _)); exact BK120.out) NB120_126.out (by simp)); have n1_ := Aside0.mk (KeepBut.blk hk (g' := gb121) (o := .cells #[.int .i64 0, .int .i64 0, .int .i64 0, .int .i64 0] 34 (0, 0)) (by (with_reducible repeat (first | refine blk_drewN ?_ _ | refine blk_drew ?_ | refine blk_alloc ?_ _)); exact BK121.out) NB121_126.out (by simp)); have n2_ := Aside0.mk (KeepBut.blk hk (g' := gb122) (o := .cells #[.int .i64 0, .int .i64 0] 36 (0, 0)) (by (with_reducible repeat (first | refine blk_drewN ?_ _ | refine blk_drew ?_ | refine blk_alloc ?_ _)); exact BK122.out) NB122_126.out (by simp)); have n3_ := Aside0.mk (KeepBut.blk hk (g' := gb133) (o := .cells #[.int .i64 t127, .int .i64 t130, .int .i64 (wrap64 (t127 + t134)), .int .i64 (wrap64 (t130 + t137))] 34 (0, 0)) (by (with_reducible repeat (first | refine blk_drewN ?_ _ | refine blk_drew ?_ | refine blk_alloc ?_ _)); exact BK133.out) NB133_126.out (by simp)); have n4_ := Aside0.mk (hb); have n5_ := Aside0.mk (hi); clear BK120; clear BK121; clear BK122; clear BK133; clear HB; clear HI126; have BK120 := n0_; have BK121 := n1_; have BK122 := n2_; have BK133 := n3_; have HB := n4_; have HI126 := n5_; clear n0_ n1_ n2_ n3_ n4_ n5_; (try clear hb); (try clear hb2); (try clear hk); (try clear hi)) | ((with_reducible refine gate_dst (N := 7) rfl ?_); refine box_event ?hg (N := 7) ?hd (cs := #[.int .i64 0, .int .i64 0, .int .i64 0, .int .i64 0]) (t := 34) ?hr ?_; (case hd => rfl); (case hg => rfl); (case hr => first | (go_simp; done) | (go_simp; rfl)); intro gb146 hg w35 hbox hb; have n0_ := Aside0.mk (blk_below (g := gb120) (o := .cells #[.int .i64 0, .int .i64 0, .int .i64 0, .int .i64 0] 34 (0, 0)) (by (with_reducible repeat (first | refine blk_drewN ?_ _ | refine blk_drew ?_ | refine blk_alloc ?_ _)); exact BK120.out) hb); have n1_ := Aside0.mk (blk_below (g := gb121) (o := .cells #[.int .i64 0, .int .i64 0, .int .i64 0, .int .i64 0] 34 (0, 0)) (by (with_reducible repeat (first | refine blk_drewN ?_ _ | refine blk_drew ?_ | refine blk_alloc ?_ _)); exact BK121.out) hb); have n2_ := Aside0.mk (blk_below (g := gb122) (o := .cells #[.int .i64 0, .int .i64 0] 36 (0, 0)) (by (with_reducible repeat (first | refine blk_drewN ?_ _ | refine blk_drew ?_ | refine blk_alloc ?_ _)); exact BK122.out) hb); have n3_ := Aside0.mk (IsS56.below (by repeat (first | (with_reducible first | exact HI126.out | apply IsS56.alloc | apply IsS56.drewN | apply IsS56.drew | apply IsS56.set_1 | apply IsS56.set_2 | refine IsS56.far ?_ NB126_120.out _ | refine IsS56.far ?_ NB126_121.out _ | refine IsS56.far ?_ NB126_122.out _ | refine IsS56.far ?_ NB126_133.out _) | exact HI126.out)) hb); have n4_ := Aside0.mk (blk_below (g := gb133) (o := .cells #[.int .i64 t127, .int .i64 t130, .int .i64 (wrap64 (t127 + t134)), .int .i64 (wrap64 (t130 + t137))] 34 (0, 0)) (by (with_reducible repeat (first | refine blk_drewN ?_ _ | refine blk_drew ?_ | refine blk_alloc ?_ _)); exact BK133.out) hb); have n5_ := Aside0.mk (below_step (by repeat (first | (with_reducible first | exact HB.out | apply below_alloc | apply pw_below_drewN | apply below_drew1 | refine below_set ?_ (IsS56.ge HI126.out) | refine below_set ?_ GE120.out | refine below_set ?_ GE121.out | refine below_set ?_ GE122.out | refine below_set ?_ GE133.out) | exact HB.out)) hb); have n6_ := Aside0.mk (hbox); have n7_ := Aside0.mk ((by rw [hg]; exact (below_size (by repeat (first | (with_reducible first | exact HB.out | apply below_alloc | apply pw_below_drewN | apply below_drew1 | refine below_set ?_ (IsS56.ge HI126.out) | refine below_set ?_ GE120.out | refine below_set ?_ GE121.out | refine below_set ?_ GE122.out | refine below_set ?_ GE133.out) | exact HB.out))) : w.heap.size ≤ gb146)); have n8_ := Aside0.mk ((by rw [hg]; exact (below_size (by repeat (first | (with_reducible first | exact HB.out | apply below_alloc | apply pw_below_drewN | apply below_drew1 | refine below_set ?_ (IsS56.ge HI126.out) | refine below_set ?_ GE120.out | refine below_set ?_ GE121.out | refine below_set ?_ GE122.out | refine below_set ?_ GE133.out) | exact HB.out))) : w.heap.size ≤ gb146)); have n9_ := Aside0.mk ((by rw [hg]; exact Nat.ne_of_lt (blk_lt (g := gb120) (o := .cells #[.int .i64 0, .int .i64 0, .int .i64 0, .int .i64 0] 34 (0, 0)) (by (with_reducible repeat (first | refine blk_drewN ?_ _ | refine blk_drew ?_ | refine blk_alloc ?_ _)); exact BK120.out)) : gb120 ≠ gb146)); have n10_ := Aside0.mk ((by rw [hg]; exact Nat.ne_of_gt (blk_lt (g := gb120) (o := .cells #[.int .i64 0, .int .i64 0, .int .i64 0, .int .i64 0] 34 (0, 0)) (by (with_reducible repeat (first | refine blk_drewN ?_ _ | refine blk_drew ?_ | refine blk_alloc ?_ _)); exact BK120.out)) : gb146 ≠ gb120)); have n11_ := Aside0.mk ((by rw [hg]; exact Nat.ne_of_lt (blk_lt (g := gb121) (o := .cells #[.int .i64 0, .int .i64 0, .int .i64 0, .int .i64 0] 34 (0, 0)) (by (with_reducible repeat (first | refine blk_drewN ?_ _ | refine blk_drew ?_ | refine blk_alloc ?_ _)); exact BK121.out)) : gb121 ≠ gb146)); have n12_ := Aside0.mk ((by rw [hg]; exact Nat.ne_of_gt (blk_lt (g := gb121) (o := .cells #[.int .i64 0, .int .i64 0, .int .i64 0, .int .i64 0] 34 (0, 0)) (by (with_reducible repeat (first | refine blk_drewN ?_ _ | refine blk_drew ?_ | refine blk_alloc ?_ _)); exact BK121.out)) : gb146 ≠ gb121)); have n13_ := Aside0.mk ((by rw [hg]; exact Nat.ne_of_lt (blk_lt (g := gb122) (o := .cells #[.int .i64 0, .int .i64 0] 36 (0, 0)) (by (with_reducible repeat (first | refine blk_drewN ?_ _ | refine blk_drew ?_ | refine blk_alloc ?_ _)); exact BK122.out)) : gb122 ≠ gb146)); have n14_ := Aside0.mk ((by rw [hg]; exact Nat.ne_of_gt (blk_lt (g := gb122) (o := .cells #[.int .i64 0, .int .i64 0] 36 (0, 0)) (by (with_reducible repeat (first | refine blk_drewN ?_ _ | refine blk_drew ?_ | refine blk_alloc ?_ _)); exact BK122.out)) : gb146 ≠ gb122)); have n15_ := Aside0.mk ((by rw [hg]; exact Nat.ne_of_lt (blk_lt (g := gb133) (o := .cells #[.int .i64 t127, .int .i64 t130, .int .i64 (wrap64 (t127 + t134)), .int .i64 (wrap64 (t130 + t137))] 34 (0, 0)) (by (with_reducible repeat (first | refine blk_drewN ?_ _ | refine blk_drew ?_ | refine blk_alloc ?_ _)); exact BK133.out)) : gb133 ≠ gb146)); have n16_ := Aside0.mk ((by rw [hg]; exact Nat.ne_of_gt (blk_lt (g := gb133) (o := .cells #[.int .i64 t127, .int .i64 t130, .int .i64 (wrap64 (t127 + t134)), .int .i64 (wrap64 (t130 + t137))] 34 (0, 0)) (by (with_reducible repeat (first | refine blk_drewN ?_ _ | refine blk_drew ?_ | refine blk_alloc ?_ _)); exact BK133.out)) : gb146 ≠ gb133)); have n17_ := Aside0.mk ((by rw [hg]; exact Nat.ne_of_lt (IsS56.lt (show IsS56 w _ g126 t123 t144 t145 from by repeat (first | (with_reducible first | exact HI126.out | apply IsS56.alloc | apply IsS56.drewN | apply IsS56.drew | apply IsS56.set_1 | apply IsS56.set_2 | refine IsS56.far ?_ NB126_120.out _ | refine IsS56.far ?_ NB126_121.out _ | refine IsS56.far ?_ NB126_122.out _ | refine IsS56.far ?_ NB126_133.out _) | exact HI126.out))) : g126 ≠ gb146)); have n18_ := Aside0.mk ((by rw [hg]; exact Nat.ne_of_gt (IsS56.lt (show IsS56 w _ g126 t123 t144 t145 from by repeat (first | (with_reducible first | exact HI126.out | apply IsS56.alloc | apply IsS56.drewN | apply IsS56.drew | apply IsS56.set_1 | apply IsS56.set_2 | refine IsS56.far ?_ NB126_120.out _ | refine IsS56.far ?_ NB126_121.out _ | refine IsS56.far ?_ NB126_122.out _ | refine IsS56.far ?_ NB126_133.out _) | exact HI126.out))) : gb146 ≠ g126)); clear BK120; clear BK121; clear BK122; clear HI126; clear BK133; clear HB; have BK120 := n0_; have BK121 := n1_; have BK122 := n2_; have HI126 := n3_; have BK133 := n4_; have HB := n5_; have BK146 := n6_; have GW146 := n7_; have GE146 := n8_; have NB120_146 := n9_; have NB146_120 := n10_; have NB121_146 := n11_; have NB146_121 := n12_; have NB122_146 := n13_; have NB146_122 := n14_; have NB133_146 := n15_; have NB146_133 := n16_; have NB126_146 := n17_; have NB146_126 := n18_; clear n0_ n1_ n2_ n3_ n4_ n5_ n6_ n7_ n8_ n9_ n10_ n11_ n12_ n13_ n14_ n15_ n16_ n17_ n18_; clear hb hbox hg; have hnb36 := NB146_120.out; have hnc36 := NB120_146.out; have hnb37 := NB146_121.out; have hnc37 := NB121_146.out; have hnb38 := NB146_122.out; have hnc38 := NB122_146.out; have hnb39 := NB146_133.out; have hnc39 := NB133_146.out; have hnb40 := NB146_126.out; have hnc40 := NB126_146.out; have hcz41_0 : w35.cell? ⟨gb146, 0, none⟩ = some (.int .i64 0) := (blk_cell BK146.out 0).trans rfl; have hcz41_1 : w35.cell? ⟨gb146, 1, none⟩ = some (.int .i64 0) := (blk_cell BK146.out 1).trans rfl; have hcz41_2 : w35.cell? ⟨gb146, 2, none⟩ = some (.int .i64 0) := (blk_cell BK146.out 2).trans rfl; have hcz41_3 : w35.cell? ⟨gb146, 3, none⟩ = some (.int .i64 0) := (blk_cell BK146.out 3).trans rfl; have hfz41_0 := blk_frozen BK146.out 0; have hfz41_1 := blk_frozen BK146.out 1; have hfz41_2 := blk_frozen BK146.out 2; have hfz41_3 := blk_frozen BK146.out 3))
  refine Name.name_world ?_
  intro w42 hw42
  have n0_ : Aside0 (w42.heap[gb120]? = some (.cells #[.int .i64 0, .int .i64 0, .int .i64 0, .int .i64 0] 34 (0, 0))) := ⟨by rw [hw42]; (with_reducible repeat (first | refine blk_drewN ?_ _ | refine blk_drew ?_ | refine blk_alloc ?_ _)); refine blk_far ?_ NB120_146.out _; (with_reducible repeat (first | refine blk_drewN ?_ _ | refine blk_drew ?_ | refine blk_alloc ?_ _)); refine blk_far ?_ NB120_146.out _; (with_reducible repeat (first | refine blk_drewN ?_ _ | refine blk_drew ?_ | refine blk_alloc ?_ _)); refine blk_far ?_ NB120_146.out _; (with_reducible repeat (first | refine blk_drewN ?_ _ | refine blk_drew ?_ | refine blk_alloc ?_ _)); refine blk_far ?_ NB120_146.out _; (with_reducible repeat (first | refine blk_drewN ?_ _ | refine blk_drew ?_ | refine blk_alloc ?_ _)); exact BK120.out⟩
  have n1_ : Aside0 (w42.heap[gb121]? = some (.cells #[.int .i64 0, .int .i64 0, .int .i64 0, .int .i64 0] 34 (0, 0))) := ⟨by rw [hw42]; (with_reducible repeat (first | refine blk_drewN ?_ _ | refine blk_drew ?_ | refine blk_alloc ?_ _)); refine blk_far ?_ NB121_146.out _; (with_reducible repeat (first | refine blk_drewN ?_ _ | refine blk_drew ?_ | refine blk_alloc ?_ _)); refine blk_far ?_ NB121_146.out _; (with_reducible repeat (first | refine blk_drewN ?_ _ | refine blk_drew ?_ | refine blk_alloc ?_ _)); refine blk_far ?_ NB121_146.out _; (with_reducible repeat (first | refine blk_drewN ?_ _ | refine blk_drew ?_ | refine blk_alloc ?_ _)); refine blk_far ?_ NB121_146.out _; (with_reducible repeat (first | refine blk_drewN ?_ _ | refine blk_drew ?_ | refine blk_alloc ?_ _)); exact BK121.out⟩
  have n2_ : Aside0 (w42.heap[gb122]? = some (.cells #[.int .i64 0, .int .i64 0] 36 (0, 0))) := ⟨by rw [hw42]; (with_reducible repeat (first | refine blk_drewN ?_ _ | refine blk_drew ?_ | refine blk_alloc ?_ _)); refine blk_far ?_ NB122_146.out _; (with_reducible repeat (first | refine blk_drewN ?_ _ | refine blk_drew ?_ | refine blk_alloc ?_ _)); refine blk_far ?_ NB122_146.out _; (with_reducible repeat (first | refine blk_drewN ?_ _ | refine blk_drew ?_ | refine blk_alloc ?_ _)); refine blk_far ?_ NB122_146.out _; (with_reducible repeat (first | refine blk_drewN ?_ _ | refine blk_drew ?_ | refine blk_alloc ?_ _)); refine blk_far ?_ NB122_146.out _; (with_reducible repeat (first | refine blk_drewN ?_ _ | refine blk_drew ?_ | refine blk_alloc ?_ _)); exact BK122.out⟩
  have n3_ : Aside0 (w42.heap[gb133]? = some (.cells #[.int .i64 t127, .int .i64 t130, .int .i64 (wrap64 (t127 + t134)), .int .i64 (wrap64 (t130 + t137))] 34 (0, 0))) := ⟨by rw [hw42]; (with_reducible repeat (first | refine blk_drewN ?_ _ | refine blk_drew ?_ | refine blk_alloc ?_ _)); refine blk_far ?_ NB133_146.out _; (with_reducible repeat (first | refine blk_drewN ?_ _ | refine blk_drew ?_ | refine blk_alloc ?_ _)); refine blk_far ?_ NB133_146.out _; (with_reducible repeat (first | refine blk_drewN ?_ _ | refine blk_drew ?_ | refine blk_alloc ?_ _)); refine blk_far ?_ NB133_146.out _; (with_reducible repeat (first | refine blk_drewN ?_ _ | refine blk_drew ?_ | refine blk_alloc ?_ _)); refine blk_far ?_ NB133_146.out _; (with_reducible repeat (first | refine blk_drewN ?_ _ | refine blk_drew ?_ | refine blk_alloc ?_ _)); exact BK133.out⟩
  have n4_ : Aside0 (w42.heap[gb146]? = some (.cells #[.int .i64 t140, .int .i64 t143, .int .i64 0, .int .i64 0] 34 (0, 0))) := ⟨by rw [hw42]; (with_reducible repeat (first | refine blk_drewN ?_ _ | refine blk_drew ?_ | refine blk_alloc ?_ _)); refine blk_put (cs := #[.int .i64 t140, .int .i64 t143, .int .i64 0, .int .i64 0]) ?_ 3 _ rfl; (with_reducible repeat (first | refine blk_drewN ?_ _ | refine blk_drew ?_ | refine blk_alloc ?_ _)); refine blk_put (cs := #[.int .i64 t140, .int .i64 t143, .int .i64 0, .int .i64 0]) ?_ 2 _ rfl; (with_reducible repeat (first | refine blk_drewN ?_ _ | refine blk_drew ?_ | refine blk_alloc ?_ _)); refine blk_put (cs := #[.int .i64 t140, .int .i64 0, .int .i64 0, .int .i64 0]) ?_ 1 _ rfl; (with_reducible repeat (first | refine blk_drewN ?_ _ | refine blk_drew ?_ | refine blk_alloc ?_ _)); refine blk_put (cs := #[.int .i64 0, .int .i64 0, .int .i64 0, .int .i64 0]) ?_ 0 _ rfl; (with_reducible repeat (first | refine blk_drewN ?_ _ | refine blk_drew ?_ | refine blk_alloc ?_ _)); exact BK146.out⟩
  have n5_ : Aside0 (IsS56 w w42 g126 t123 t144 t145) := ⟨by rw [hw42]; repeat (first | (with_reducible first | exact HI126.out | apply IsS56.alloc | apply IsS56.drewN | apply IsS56.drew | apply IsS56.set_1 | apply IsS56.set_2 | refine IsS56.far ?_ NB126_120.out _ | refine IsS56.far ?_ NB126_121.out _ | refine IsS56.far ?_ NB126_122.out _ | refine IsS56.far ?_ NB126_133.out _ | refine IsS56.far ?_ NB126_146.out _) | exact HI126.out)⟩
  have n6_ : Aside0 (Below w.heap.size w w42) := ⟨by rw [hw42]; repeat (first | (with_reducible first | exact HB.out | apply below_alloc | apply pw_below_drewN | apply below_drew1 | refine below_set ?_ (IsS56.ge HI126.out) | refine below_set ?_ GE120.out | refine below_set ?_ GE121.out | refine below_set ?_ GE122.out | refine below_set ?_ GE133.out | refine below_set ?_ GE146.out) | exact HB.out)⟩
  (try clear BK120)
  (try clear BK121)
  (try clear BK122)
  (try clear BK133)
  (try clear BK146)
  (try clear HI126)
  (try clear HB)
  clear hw42
  have BK120 := n0_
  have BK121 := n1_
  have BK122 := n2_
  have BK133 := n3_
  have BK146 := n4_
  have HI126 := n5_
  have HB := n6_
  clear n0_ n1_ n2_ n3_ n4_ n5_ n6_
  have n0_ := Aside0.mk (blk_drew BK120.out)
  have n1_ := Aside0.mk (blk_drew BK121.out)
  have n2_ := Aside0.mk (blk_drew BK122.out)
  have n3_ := Aside0.mk (blk_drew BK133.out)
  have n4_ := Aside0.mk (blk_drew BK146.out)
  have n5_ := Aside0.mk (IsS56.drew HI126.out)
  have n6_ := Aside0.mk (below_drew1 HB.out)
  clear BK120
  clear BK121
  clear BK122
  clear BK133
  clear BK146
  clear HI126
  clear HB
  have BK120 := n0_
  have BK121 := n1_
  have BK122 := n2_
  have BK133 := n3_
  have BK146 := n4_
  have HI126 := n5_
  have HB := n6_
  clear n0_ n1_ n2_ n3_ n4_ n5_ n6_
  refine start_ (n := 7) (S := fun w' => w'.cell? ⟨gb146, 0, none⟩ = some (.int .i64 t140) ∧ w'.cell? ⟨gb146, 1, none⟩ = some (.int .i64 t143) ∧ w'.cell? ⟨gb146, 2, none⟩ = some (.int .i64 0) ∧ w'.cell? ⟨gb146, 3, none⟩ = some (.int .i64 0)) (ds := [6]) #[false, false, false, false, false, false, false] (by kernel_rfl) rfl rfl ⟨(blk_cell BK146.out 0).trans rfl, (blk_cell BK146.out 1).trans rfl, (blk_cell BK146.out 2).trans rfl, (blk_cell BK146.out 3).trans rfl⟩ (fun hHeld => ?_)
  generalize w42.drew = w43 at BK120 BK121 BK122 BK133 BK146 HI126 HB hHeld ⊢
  refine pure_ (i := 0) (N := some 32) (v := ?_) (a' := ?_) #[true, false, false, false, false, false, false] rfl rfl (by kernel_rfl) (fun _ _ _ h => h) (Or.inl ⟨by rfl, ?_⟩) ?_ ?_
  rotate_left
  · intro w'
    go_simp
    with_reducible rfl
  rotate_left
  · simp only [Act.put, List.setIfInBounds_toArray, List.set_cons_zero, List.set_cons_succ, i64_w, i32_w]
    rfl
  refine pure_ (i := 2) (N := some 34) (v := ?_) (a' := ?_) #[true, false, true, false, false, false, false] rfl rfl (by kernel_rfl) (fun _ _ _ h => h) (Or.inl ⟨by rfl, ?_⟩) ?_ ?_
  rotate_left
  · intro w'
    go_simp
    with_reducible rfl
  rotate_left
  · simp only [Act.put, List.setIfInBounds_toArray, List.set_cons_zero, List.set_cons_succ, i64_w, i32_w]
    rfl
  refine take_ (i := 1) (N := some 33) (v := ?_) (a' := ?_) #[true, true, true, false, false, false, false] rfl rfl (by kernel_rfl) (fun _ _ _ h => h) (Or.inl ⟨by rfl, ?_⟩) hHeld ?_ ?_
  rotate_left
  · rintro w' ⟨s0, s1, s2, s3⟩
    go_simp
    with_reducible rfl
  rotate_left
  · simp only [Act.put, List.setIfInBounds_toArray, List.set_cons_zero, List.set_cons_succ, i64_w, i32_w]
    rfl
  refine one_ (i := 3) (N := some 35) #[true, true, true, true, false, false, false] rfl rfl (by kernel_rfl) (by decide) (fun K hK => ?_)
  refine goes_ Try.func29 (by kernel_rfl) rfl #[.pointer (some ⟨g126, 0, none⟩), .int .i64 9] (by rfl) rfl rfl (by (try simp only [List.map_toArray, List.map_cons, List.map_nil]); first | done | rfl | (simp only [List.length_drop, List.length_take]; rfl)) ?_
  with_reducible refine (spec_l01Below.calls g126 t123 t144 t145 9 t147 t148 t149 w _ ?side1 ?side2 A9.out).mono ?_
  (case side1 => repeat (first | (with_reducible first | exact HI126.out | apply IsS56.alloc | apply IsS56.drewN | apply IsS56.drew | apply IsS56.set_1 | apply IsS56.set_2 | refine IsS56.far ?_ NB126_120.out _ | refine IsS56.far ?_ NB126_121.out _ | refine IsS56.far ?_ NB126_122.out _ | refine IsS56.far ?_ NB126_133.out _ | refine IsS56.far ?_ NB126_146.out _) | exact HI126.out))
  (case side2 => repeat (first | (with_reducible first | exact HB.out | apply below_alloc | apply pw_below_drewN | apply below_drew1 | refine below_set ?_ (IsS56.ge HI126.out) | refine below_set ?_ GE120.out | refine below_set ?_ GE121.out | refine below_set ?_ GE122.out | refine below_set ?_ GE133.out | refine below_set ?_ GE146.out) | exact HB.out))
  rintro e w44 ⟨rfl, hi, hb, hk⟩
  refine ⟨_, rfl, ?_⟩
  have n0_ := Aside0.mk (KeepBut.blk hk (g' := gb120) (o := .cells #[.int .i64 0, .int .i64 0, .int .i64 0, .int .i64 0] 34 (0, 0)) (by (with_reducible repeat (first | refine blk_drewN ?_ _ | refine blk_drew ?_ | refine blk_alloc ?_ _)); exact BK120.out) NB120_126.out (by simp))
  have n1_ := Aside0.mk (KeepBut.blk hk (g' := gb121) (o := .cells #[.int .i64 0, .int .i64 0, .int .i64 0, .int .i64 0] 34 (0, 0)) (by (with_reducible repeat (first | refine blk_drewN ?_ _ | refine blk_drew ?_ | refine blk_alloc ?_ _)); exact BK121.out) NB121_126.out (by simp))
  have n2_ := Aside0.mk (KeepBut.blk hk (g' := gb122) (o := .cells #[.int .i64 0, .int .i64 0] 36 (0, 0)) (by (with_reducible repeat (first | refine blk_drewN ?_ _ | refine blk_drew ?_ | refine blk_alloc ?_ _)); exact BK122.out) NB122_126.out (by simp))
  have n3_ := Aside0.mk (KeepBut.blk hk (g' := gb133) (o := .cells #[.int .i64 t127, .int .i64 t130, .int .i64 (wrap64 (t127 + t134)), .int .i64 (wrap64 (t130 + t137))] 34 (0, 0)) (by (with_reducible repeat (first | refine blk_drewN ?_ _ | refine blk_drew ?_ | refine blk_alloc ?_ _)); exact BK133.out) NB133_126.out (by simp))
  have n4_ := Aside0.mk (KeepBut.blk hk (g' := gb146) (o := .cells #[.int .i64 t140, .int .i64 t143, .int .i64 0, .int .i64 0] 34 (0, 0)) (by (with_reducible repeat (first | refine blk_drewN ?_ _ | refine blk_drew ?_ | refine blk_alloc ?_ _)); exact BK146.out) NB146_126.out (by simp))
  have n5_ := Aside0.mk (hb)
  have n6_ := Aside0.mk (hi)
  clear BK120
  clear BK121
  clear BK122
  clear BK133
  clear BK146
  clear HB
  clear HI126
  have BK120 := n0_
  have BK121 := n1_
  have BK122 := n2_
  have BK133 := n3_
  have BK146 := n4_
  have HB := n5_
  have HI126 := n6_
  clear n0_ n1_ n2_ n3_ n4_ n5_ n6_
  (try clear hb)
  (try clear hb2)
  (try clear hk)
  (try clear hi)
  refine hK.out _ _ ⟨(blk_cell BK146.out 0).trans rfl, (blk_cell BK146.out 1).trans rfl, (blk_cell BK146.out 2).trans rfl, (blk_cell BK146.out 3).trans rfl⟩ (fun hHeld => ?_)
  clear hK K
  refine norm_ (a' := ?_) ?_ ?_
  rotate_left
  · show Act.put _ (some 35) _ = _
    simp only [Act.put, List.setIfInBounds_toArray, List.set_cons_zero, List.set_cons_succ, i64_w, i32_w]
    rfl
  refine pure_ (i := 4) (N := some 36) (v := ?_) (a' := ?_) #[true, true, true, true, true, false, false] rfl rfl (by kernel_rfl) (fun _ _ _ h => h) (Or.inl ⟨by rfl, ?_⟩) ?_ ?_
  rotate_left
  · intro w'
    go_simp
    with_reducible rfl
  rotate_left
  · simp only [Act.put, List.setIfInBounds_toArray, List.set_cons_zero, List.set_cons_succ, i64_w, i32_w]
    rfl
  refine pure_ (i := 5) (N := some 37) (v := ?_) (a' := ?_) #[true, true, true, true, true, true, false] rfl rfl (by kernel_rfl) (fun _ _ _ h => h) (Or.inl ⟨by rfl, ?_⟩) ?_ ?_
  rotate_left
  · intro w'
    go_simp
    with_reducible rfl
  rotate_left
  · simp only [Act.put, List.setIfInBounds_toArray, List.set_cons_zero, List.set_cons_succ, i64_w, i32_w]
    rfl
  refine last_ (i := 6) (N := none) #[true, true, true, true, true, true, true] rfl rfl (by kernel_rfl) (by decide) (fun K hK => ?_)
  have hs45 : w44.cell? ⟨gb146, 2, none⟩ = some (.int .i64 0) := (blk_cell BK146.out 2).trans rfl
  have hfs45 := blk_frozen BK146.out 2
  have hns45_0 := NB120_146.out
  have hns45_1 := NB121_146.out
  have hns45_2 := NB122_146.out
  have hns45_3 := NB133_146.out
  have hms45_0 := NB146_120.out
  have hms45_1 := NB146_121.out
  have hms45_2 := NB146_122.out
  have hms45_3 := NB146_133.out
  refine skip_ (w1 := ?_) ?hw ?hn ?_ ?_; (case hw => kernel_rfl); (case hn => kernel_rfl)
  rotate_left
  · go_simp
    rfl
  refine hK.out _ _ ?_
  clear hK K
  refine done_ (by kernel_rfl) ?_
  try go_wp2
  refine Name.name_world ?_
  intro w46 hw46
  have n0_ : Aside0 (w46.heap[gb120]? = some (.cells #[.int .i64 0, .int .i64 0, .int .i64 0, .int .i64 0] 34 (0, 0))) := ⟨by rw [hw46]; (with_reducible repeat (first | refine blk_drewN ?_ _ | refine blk_drew ?_ | refine blk_alloc ?_ _)); refine blk_far ?_ NB120_146.out _; (with_reducible repeat (first | refine blk_drewN ?_ _ | refine blk_drew ?_ | refine blk_alloc ?_ _)); exact BK120.out⟩
  have n1_ : Aside0 (w46.heap[gb121]? = some (.cells #[.int .i64 0, .int .i64 0, .int .i64 0, .int .i64 0] 34 (0, 0))) := ⟨by rw [hw46]; (with_reducible repeat (first | refine blk_drewN ?_ _ | refine blk_drew ?_ | refine blk_alloc ?_ _)); refine blk_far ?_ NB121_146.out _; (with_reducible repeat (first | refine blk_drewN ?_ _ | refine blk_drew ?_ | refine blk_alloc ?_ _)); exact BK121.out⟩
  have n2_ : Aside0 (w46.heap[gb122]? = some (.cells #[.int .i64 0, .int .i64 0] 36 (0, 0))) := ⟨by rw [hw46]; (with_reducible repeat (first | refine blk_drewN ?_ _ | refine blk_drew ?_ | refine blk_alloc ?_ _)); refine blk_far ?_ NB122_146.out _; (with_reducible repeat (first | refine blk_drewN ?_ _ | refine blk_drew ?_ | refine blk_alloc ?_ _)); exact BK122.out⟩
  have n3_ : Aside0 (w46.heap[gb133]? = some (.cells #[.int .i64 t127, .int .i64 t130, .int .i64 (wrap64 (t127 + t134)), .int .i64 (wrap64 (t130 + t137))] 34 (0, 0))) := ⟨by rw [hw46]; (with_reducible repeat (first | refine blk_drewN ?_ _ | refine blk_drew ?_ | refine blk_alloc ?_ _)); refine blk_far ?_ NB133_146.out _; (with_reducible repeat (first | refine blk_drewN ?_ _ | refine blk_drew ?_ | refine blk_alloc ?_ _)); exact BK133.out⟩
  have n4_ : Aside0 (w46.heap[gb146]? = some (.cells #[.int .i64 t140, .int .i64 t143, .int .i64 (wrap64 (t140 + t147)), .int .i64 0] 34 (0, 0))) := ⟨by rw [hw46]; (with_reducible repeat (first | refine blk_drewN ?_ _ | refine blk_drew ?_ | refine blk_alloc ?_ _)); refine blk_put (cs := #[.int .i64 t140, .int .i64 t143, .int .i64 0, .int .i64 0]) ?_ 2 _ rfl; (with_reducible repeat (first | refine blk_drewN ?_ _ | refine blk_drew ?_ | refine blk_alloc ?_ _)); exact BK146.out⟩
  have n5_ : Aside0 (IsS56 w w46 g126 t123 t148 t149) := ⟨by rw [hw46]; repeat (first | (with_reducible first | exact HI126.out | apply IsS56.alloc | apply IsS56.drewN | apply IsS56.drew | apply IsS56.set_1 | apply IsS56.set_2 | refine IsS56.far ?_ NB126_120.out _ | refine IsS56.far ?_ NB126_121.out _ | refine IsS56.far ?_ NB126_122.out _ | refine IsS56.far ?_ NB126_133.out _ | refine IsS56.far ?_ NB126_146.out _) | exact HI126.out)⟩
  have n6_ : Aside0 (Below w.heap.size w w46) := ⟨by rw [hw46]; repeat (first | (with_reducible first | exact HB.out | apply below_alloc | apply pw_below_drewN | apply below_drew1 | refine below_set ?_ (IsS56.ge HI126.out) | refine below_set ?_ GE120.out | refine below_set ?_ GE121.out | refine below_set ?_ GE122.out | refine below_set ?_ GE133.out | refine below_set ?_ GE146.out) | exact HB.out)⟩
  (try clear BK120)
  (try clear BK121)
  (try clear BK122)
  (try clear BK133)
  (try clear BK146)
  (try clear HI126)
  (try clear HB)
  clear hw46
  have BK120 := n0_
  have BK121 := n1_
  have BK122 := n2_
  have BK133 := n3_
  have BK146 := n4_
  have HI126 := n5_
  have HB := n6_
  clear n0_ n1_ n2_ n3_ n4_ n5_ n6_
  have n0_ := Aside0.mk (blk_drew BK120.out)
  have n1_ := Aside0.mk (blk_drew BK121.out)
  have n2_ := Aside0.mk (blk_drew BK122.out)
  have n3_ := Aside0.mk (blk_drew BK133.out)
  have n4_ := Aside0.mk (blk_drew BK146.out)
  have n5_ := Aside0.mk (IsS56.drew HI126.out)
  have n6_ := Aside0.mk (below_drew1 HB.out)
  clear BK120
  clear BK121
  clear BK122
  clear BK133
  clear BK146
  clear HI126
  clear HB
  have BK120 := n0_
  have BK121 := n1_
  have BK122 := n2_
  have BK133 := n3_
  have BK146 := n4_
  have HI126 := n5_
  have HB := n6_
  clear n0_ n1_ n2_ n3_ n4_ n5_ n6_
  refine start_ (n := 7) (S := fun w' => w'.cell? ⟨gb146, 0, none⟩ = some (.int .i64 t140) ∧ w'.cell? ⟨gb146, 1, none⟩ = some (.int .i64 t143) ∧ w'.cell? ⟨gb146, 2, none⟩ = some (.int .i64 (wrap64 (t140 + t147))) ∧ w'.cell? ⟨gb146, 3, none⟩ = some (.int .i64 0)) (ds := [6]) #[false, false, false, false, false, false, false] (by kernel_rfl) rfl rfl ⟨(blk_cell BK146.out 0).trans rfl, (blk_cell BK146.out 1).trans rfl, (blk_cell BK146.out 2).trans rfl, (blk_cell BK146.out 3).trans rfl⟩ (fun hHeld => ?_)
  generalize w46.drew = w47 at BK120 BK121 BK122 BK133 BK146 HI126 HB hHeld ⊢
  refine pure_ (i := 0) (N := some 38) (v := ?_) (a' := ?_) #[true, false, false, false, false, false, false] rfl rfl (by kernel_rfl) (fun _ _ _ h => h) (Or.inl ⟨by rfl, ?_⟩) ?_ ?_
  rotate_left
  · intro w'
    go_simp
    with_reducible rfl
  rotate_left
  · simp only [Act.put, List.setIfInBounds_toArray, List.set_cons_zero, List.set_cons_succ, i64_w, i32_w]
    rfl
  refine pure_ (i := 2) (N := some 40) (v := ?_) (a' := ?_) #[true, false, true, false, false, false, false] rfl rfl (by kernel_rfl) (fun _ _ _ h => h) (Or.inl ⟨by rfl, ?_⟩) ?_ ?_
  rotate_left
  · intro w'
    go_simp
    with_reducible rfl
  rotate_left
  · simp only [Act.put, List.setIfInBounds_toArray, List.set_cons_zero, List.set_cons_succ, i64_w, i32_w]
    rfl
  refine take_ (i := 1) (N := some 39) (v := ?_) (a' := ?_) #[true, true, true, false, false, false, false] rfl rfl (by kernel_rfl) (fun _ _ _ h => h) (Or.inl ⟨by rfl, ?_⟩) hHeld ?_ ?_
  rotate_left
  · rintro w' ⟨s0, s1, s2, s3⟩
    go_simp
    with_reducible rfl
  rotate_left
  · simp only [Act.put, List.setIfInBounds_toArray, List.set_cons_zero, List.set_cons_succ, i64_w, i32_w]
    rfl
  refine one_ (i := 3) (N := some 41) #[true, true, true, true, false, false, false] rfl rfl (by kernel_rfl) (by decide) (fun K hK => ?_)
  refine goes_ Try.func29 (by kernel_rfl) rfl #[.pointer (some ⟨g126, 0, none⟩), .int .i64 9] (by rfl) rfl rfl (by (try simp only [List.map_toArray, List.map_cons, List.map_nil]); first | done | rfl | (simp only [List.length_drop, List.length_take]; rfl)) ?_
  with_reducible refine (spec_l01Below.calls g126 t123 t148 t149 9 t150 t151 t152 w _ ?side1 ?side2 A10.out).mono ?_
  (case side1 => repeat (first | (with_reducible first | exact HI126.out | apply IsS56.alloc | apply IsS56.drewN | apply IsS56.drew | apply IsS56.set_1 | apply IsS56.set_2 | refine IsS56.far ?_ NB126_120.out _ | refine IsS56.far ?_ NB126_121.out _ | refine IsS56.far ?_ NB126_122.out _ | refine IsS56.far ?_ NB126_133.out _ | refine IsS56.far ?_ NB126_146.out _) | exact HI126.out))
  (case side2 => repeat (first | (with_reducible first | exact HB.out | apply below_alloc | apply pw_below_drewN | apply below_drew1 | refine below_set ?_ (IsS56.ge HI126.out) | refine below_set ?_ GE120.out | refine below_set ?_ GE121.out | refine below_set ?_ GE122.out | refine below_set ?_ GE133.out | refine below_set ?_ GE146.out) | exact HB.out))
  rintro e w48 ⟨rfl, hi, hb, hk⟩
  refine ⟨_, rfl, ?_⟩
  have n0_ := Aside0.mk (KeepBut.blk hk (g' := gb120) (o := .cells #[.int .i64 0, .int .i64 0, .int .i64 0, .int .i64 0] 34 (0, 0)) (by (with_reducible repeat (first | refine blk_drewN ?_ _ | refine blk_drew ?_ | refine blk_alloc ?_ _)); exact BK120.out) NB120_126.out (by simp))
  have n1_ := Aside0.mk (KeepBut.blk hk (g' := gb121) (o := .cells #[.int .i64 0, .int .i64 0, .int .i64 0, .int .i64 0] 34 (0, 0)) (by (with_reducible repeat (first | refine blk_drewN ?_ _ | refine blk_drew ?_ | refine blk_alloc ?_ _)); exact BK121.out) NB121_126.out (by simp))
  have n2_ := Aside0.mk (KeepBut.blk hk (g' := gb122) (o := .cells #[.int .i64 0, .int .i64 0] 36 (0, 0)) (by (with_reducible repeat (first | refine blk_drewN ?_ _ | refine blk_drew ?_ | refine blk_alloc ?_ _)); exact BK122.out) NB122_126.out (by simp))
  have n3_ := Aside0.mk (KeepBut.blk hk (g' := gb133) (o := .cells #[.int .i64 t127, .int .i64 t130, .int .i64 (wrap64 (t127 + t134)), .int .i64 (wrap64 (t130 + t137))] 34 (0, 0)) (by (with_reducible repeat (first | refine blk_drewN ?_ _ | refine blk_drew ?_ | refine blk_alloc ?_ _)); exact BK133.out) NB133_126.out (by simp))
  have n4_ := Aside0.mk (KeepBut.blk hk (g' := gb146) (o := .cells #[.int .i64 t140, .int .i64 t143, .int .i64 (wrap64 (t140 + t147)), .int .i64 0] 34 (0, 0)) (by (with_reducible repeat (first | refine blk_drewN ?_ _ | refine blk_drew ?_ | refine blk_alloc ?_ _)); exact BK146.out) NB146_126.out (by simp))
  have n5_ := Aside0.mk (hb)
  have n6_ := Aside0.mk (hi)
  clear BK120
  clear BK121
  clear BK122
  clear BK133
  clear BK146
  clear HB
  clear HI126
  have BK120 := n0_
  have BK121 := n1_
  have BK122 := n2_
  have BK133 := n3_
  have BK146 := n4_
  have HB := n5_
  have HI126 := n6_
  clear n0_ n1_ n2_ n3_ n4_ n5_ n6_
  (try clear hb)
  (try clear hb2)
  (try clear hk)
  (try clear hi)
  refine hK.out _ _ ⟨(blk_cell BK146.out 0).trans rfl, (blk_cell BK146.out 1).trans rfl, (blk_cell BK146.out 2).trans rfl, (blk_cell BK146.out 3).trans rfl⟩ (fun hHeld => ?_)
  clear hK K
  refine norm_ (a' := ?_) ?_ ?_
  rotate_left
  · show Act.put _ (some 41) _ = _
    simp only [Act.put, List.setIfInBounds_toArray, List.set_cons_zero, List.set_cons_succ, i64_w, i32_w]
    rfl
  refine pure_ (i := 4) (N := some 42) (v := ?_) (a' := ?_) #[true, true, true, true, true, false, false] rfl rfl (by kernel_rfl) (fun _ _ _ h => h) (Or.inl ⟨by rfl, ?_⟩) ?_ ?_
  rotate_left
  · intro w'
    go_simp
    with_reducible rfl
  rotate_left
  · simp only [Act.put, List.setIfInBounds_toArray, List.set_cons_zero, List.set_cons_succ, i64_w, i32_w]
    rfl
  refine pure_ (i := 5) (N := some 43) (v := ?_) (a' := ?_) #[true, true, true, true, true, true, false] rfl rfl (by kernel_rfl) (fun _ _ _ h => h) (Or.inl ⟨by rfl, ?_⟩) ?_ ?_
  rotate_left
  · intro w'
    go_simp
    with_reducible rfl
  rotate_left
  · simp only [Act.put, List.setIfInBounds_toArray, List.set_cons_zero, List.set_cons_succ, i64_w, i32_w]
    rfl
  refine last_ (i := 6) (N := none) #[true, true, true, true, true, true, true] rfl rfl (by kernel_rfl) (by decide) (fun K hK => ?_)
  have hs49 : w48.cell? ⟨gb146, 3, none⟩ = some (.int .i64 0) := (blk_cell BK146.out 3).trans rfl
  have hfs49 := blk_frozen BK146.out 3
  have hns49_0 := NB120_146.out
  have hns49_1 := NB121_146.out
  have hns49_2 := NB122_146.out
  have hns49_3 := NB133_146.out
  have hms49_0 := NB146_120.out
  have hms49_1 := NB146_121.out
  have hms49_2 := NB146_122.out
  have hms49_3 := NB146_133.out
  refine skip_ (w1 := ?_) ?hw ?hn ?_ ?_; (case hw => kernel_rfl); (case hn => kernel_rfl)
  rotate_left
  · go_simp
    rfl
  refine hK.out _ _ ?_
  clear hK K
  refine done_ (by kernel_rfl) ?_
  try go_wp2
  refine Name.name_world ?_
  intro w50 hw50
  have n0_ : Aside0 (w50.heap[gb120]? = some (.cells #[.int .i64 0, .int .i64 0, .int .i64 0, .int .i64 0] 34 (0, 0))) := ⟨by rw [hw50]; (with_reducible repeat (first | refine blk_drewN ?_ _ | refine blk_drew ?_ | refine blk_alloc ?_ _)); refine blk_far ?_ NB120_146.out _; (with_reducible repeat (first | refine blk_drewN ?_ _ | refine blk_drew ?_ | refine blk_alloc ?_ _)); exact BK120.out⟩
  have n1_ : Aside0 (w50.heap[gb121]? = some (.cells #[.int .i64 0, .int .i64 0, .int .i64 0, .int .i64 0] 34 (0, 0))) := ⟨by rw [hw50]; (with_reducible repeat (first | refine blk_drewN ?_ _ | refine blk_drew ?_ | refine blk_alloc ?_ _)); refine blk_far ?_ NB121_146.out _; (with_reducible repeat (first | refine blk_drewN ?_ _ | refine blk_drew ?_ | refine blk_alloc ?_ _)); exact BK121.out⟩
  have n2_ : Aside0 (w50.heap[gb122]? = some (.cells #[.int .i64 0, .int .i64 0] 36 (0, 0))) := ⟨by rw [hw50]; (with_reducible repeat (first | refine blk_drewN ?_ _ | refine blk_drew ?_ | refine blk_alloc ?_ _)); refine blk_far ?_ NB122_146.out _; (with_reducible repeat (first | refine blk_drewN ?_ _ | refine blk_drew ?_ | refine blk_alloc ?_ _)); exact BK122.out⟩
  have n3_ : Aside0 (w50.heap[gb133]? = some (.cells #[.int .i64 t127, .int .i64 t130, .int .i64 (wrap64 (t127 + t134)), .int .i64 (wrap64 (t130 + t137))] 34 (0, 0))) := ⟨by rw [hw50]; (with_reducible repeat (first | refine blk_drewN ?_ _ | refine blk_drew ?_ | refine blk_alloc ?_ _)); refine blk_far ?_ NB133_146.out _; (with_reducible repeat (first | refine blk_drewN ?_ _ | refine blk_drew ?_ | refine blk_alloc ?_ _)); exact BK133.out⟩
  have n4_ : Aside0 (w50.heap[gb146]? = some (.cells #[.int .i64 t140, .int .i64 t143, .int .i64 (wrap64 (t140 + t147)), .int .i64 (wrap64 (t143 + t150))] 34 (0, 0))) := ⟨by rw [hw50]; (with_reducible repeat (first | refine blk_drewN ?_ _ | refine blk_drew ?_ | refine blk_alloc ?_ _)); refine blk_put (cs := #[.int .i64 t140, .int .i64 t143, .int .i64 (wrap64 (t140 + t147)), .int .i64 0]) ?_ 3 _ rfl; (with_reducible repeat (first | refine blk_drewN ?_ _ | refine blk_drew ?_ | refine blk_alloc ?_ _)); exact BK146.out⟩
  have n5_ : Aside0 (IsS56 w w50 g126 t123 t151 t152) := ⟨by rw [hw50]; repeat (first | (with_reducible first | exact HI126.out | apply IsS56.alloc | apply IsS56.drewN | apply IsS56.drew | apply IsS56.set_1 | apply IsS56.set_2 | refine IsS56.far ?_ NB126_120.out _ | refine IsS56.far ?_ NB126_121.out _ | refine IsS56.far ?_ NB126_122.out _ | refine IsS56.far ?_ NB126_133.out _ | refine IsS56.far ?_ NB126_146.out _) | exact HI126.out)⟩
  have n6_ : Aside0 (Below w.heap.size w w50) := ⟨by rw [hw50]; repeat (first | (with_reducible first | exact HB.out | apply below_alloc | apply pw_below_drewN | apply below_drew1 | refine below_set ?_ (IsS56.ge HI126.out) | refine below_set ?_ GE120.out | refine below_set ?_ GE121.out | refine below_set ?_ GE122.out | refine below_set ?_ GE133.out | refine below_set ?_ GE146.out) | exact HB.out)⟩
  (try clear BK120)
  (try clear BK121)
  (try clear BK122)
  (try clear BK133)
  (try clear BK146)
  (try clear HI126)
  (try clear HB)
  clear hw50
  have BK120 := n0_
  have BK121 := n1_
  have BK122 := n2_
  have BK133 := n3_
  have BK146 := n4_
  have HI126 := n5_
  have HB := n6_
  clear n0_ n1_ n2_ n3_ n4_ n5_ n6_
  have n0_ := Aside0.mk (blk_drew BK120.out)
  have n1_ := Aside0.mk (blk_drew BK121.out)
  have n2_ := Aside0.mk (blk_drew BK122.out)
  have n3_ := Aside0.mk (blk_drew BK133.out)
  have n4_ := Aside0.mk (blk_drew BK146.out)
  have n5_ := Aside0.mk (IsS56.drew HI126.out)
  have n6_ := Aside0.mk (below_drew1 HB.out)
  clear BK120
  clear BK121
  clear BK122
  clear BK133
  clear BK146
  clear HI126
  clear HB
  have BK120 := n0_
  have BK121 := n1_
  have BK122 := n2_
  have BK133 := n3_
  have BK146 := n4_
  have HI126 := n5_
  have HB := n6_
  clear n0_ n1_ n2_ n3_ n4_ n5_ n6_
  refine start_ (n := 10) (S := fun w' => w'.cell? ⟨gb133, 0, none⟩ = some (.int .i64 t127) ∧ w'.cell? ⟨gb133, 1, none⟩ = some (.int .i64 t130) ∧ w'.cell? ⟨gb133, 2, none⟩ = some (.int .i64 (wrap64 (t127 + t134))) ∧ w'.cell? ⟨gb133, 3, none⟩ = some (.int .i64 (wrap64 (t130 + t137))) ∧ w'.cell? ⟨gb146, 0, none⟩ = some (.int .i64 t140) ∧ w'.cell? ⟨gb146, 1, none⟩ = some (.int .i64 t143) ∧ w'.cell? ⟨gb146, 2, none⟩ = some (.int .i64 (wrap64 (t140 + t147))) ∧ w'.cell? ⟨gb146, 3, none⟩ = some (.int .i64 (wrap64 (t143 + t150)))) (ds := []) #[false, false, false, false, false, false, false, false, false, false] (by kernel_rfl) rfl rfl ⟨(blk_cell BK133.out 0).trans rfl, (blk_cell BK133.out 1).trans rfl, (blk_cell BK133.out 2).trans rfl, (blk_cell BK133.out 3).trans rfl, (blk_cell BK146.out 0).trans rfl, (blk_cell BK146.out 1).trans rfl, (blk_cell BK146.out 2).trans rfl, (blk_cell BK146.out 3).trans rfl⟩ (fun hHeld => ?_); refine with_tabW spec_DrawBoxes.tab8 spec_DrawBoxes.bits8 (fun HT_ HW_ => ?_)
  generalize w50.drew = w51 at BK120 BK121 BK122 BK133 BK146 HI126 HB hHeld ⊢
  refine pure_ (i := 2) (N := some 46) (v := ?_) (a' := ?_) #[false, false, true, false, false, false, false, false, false, false] rfl rfl (any_of HT_.out (by kernel_rfl)) (fun _ _ _ h => h) (Or.inl ⟨by rfl, ?_⟩) ?_ ?_
  rotate_left
  · intro w'
    go_simp
    with_reducible rfl
  rotate_left
  · simp only [Act.put, List.setIfInBounds_toArray, List.set_cons_zero, List.set_cons_succ, i64_w, i32_w]
    rfl
  refine pure_ (i := 4) (N := some 48) (v := ?_) (a' := ?_) #[false, false, true, false, true, false, false, false, false, false] rfl rfl (any_of HT_.out (by kernel_rfl)) (fun _ _ _ h => h) (Or.inl ⟨by rfl, ?_⟩) ?_ ?_
  rotate_left
  · intro w'
    go_simp
    with_reducible rfl
  rotate_left
  · simp only [Act.put, List.setIfInBounds_toArray, List.set_cons_zero, List.set_cons_succ, i64_w, i32_w]
    rfl
  refine take_ (i := 0) (N := some 44) (v := ?_) (a' := ?_) #[true, false, true, false, true, false, false, false, false, false] rfl rfl (take_ofW HT_.out HW_.out (by kernel_rfl)) (fun _ _ _ h => h) (Or.inl ⟨by rfl, ?_⟩) hHeld ?_ ?_
  rotate_left
  · rintro w' ⟨s0, s1, s2, s3, s4, s5, s6, s7⟩
    go_simp
    with_reducible rfl
  rotate_left
  · simp only [Act.put, List.setIfInBounds_toArray, List.set_cons_zero, List.set_cons_succ, i64_w, i32_w]
    rfl
  refine take_ (i := 1) (N := some 45) (v := ?_) (a' := ?_) #[true, true, true, false, true, false, false, false, false, false] rfl rfl (take_ofW HT_.out HW_.out (by kernel_rfl)) (fun _ _ _ h => h) (Or.inl ⟨by rfl, ?_⟩) hHeld ?_ ?_
  rotate_left
  · rintro w' ⟨s0, s1, s2, s3, s4, s5, s6, s7⟩
    go_simp
    with_reducible rfl
  rotate_left
  · simp only [Act.put, List.setIfInBounds_toArray, List.set_cons_zero, List.set_cons_succ, i64_w, i32_w]
    rfl
  refine one_ (i := 3) (N := some 47) #[true, true, true, true, true, false, false, false, false, false] rfl rfl (one_of HT_.out (by kernel_rfl)) (by decide) (fun K hK => ?_)
  refine goes_ Try.func29 (by kernel_rfl) rfl #[.pointer (some ⟨g126, 0, none⟩), .int .i64 18] (by rfl) rfl rfl (by (try simp only [List.map_toArray, List.map_cons, List.map_nil]); first | done | rfl | (simp only [List.length_drop, List.length_take]; rfl)) ?_
  with_reducible refine (spec_l01Below.calls g126 t123 t151 t152 18 t153 t154 t155 w _ ?side1 ?side2 A11.out).mono ?_
  (case side1 => repeat (first | (with_reducible first | exact HI126.out | apply IsS56.alloc | apply IsS56.drewN | apply IsS56.drew | apply IsS56.set_1 | apply IsS56.set_2 | refine IsS56.far ?_ NB126_120.out _ | refine IsS56.far ?_ NB126_121.out _ | refine IsS56.far ?_ NB126_122.out _ | refine IsS56.far ?_ NB126_133.out _ | refine IsS56.far ?_ NB126_146.out _) | exact HI126.out))
  (case side2 => repeat (first | (with_reducible first | exact HB.out | apply below_alloc | apply pw_below_drewN | apply below_drew1 | refine below_set ?_ (IsS56.ge HI126.out) | refine below_set ?_ GE120.out | refine below_set ?_ GE121.out | refine below_set ?_ GE122.out | refine below_set ?_ GE133.out | refine below_set ?_ GE146.out) | exact HB.out))
  rintro e w52 ⟨rfl, hi, hb, hk⟩
  refine ⟨_, rfl, ?_⟩
  have n0_ := Aside0.mk (KeepBut.blk hk (g' := gb120) (o := .cells #[.int .i64 0, .int .i64 0, .int .i64 0, .int .i64 0] 34 (0, 0)) (by (with_reducible repeat (first | refine blk_drewN ?_ _ | refine blk_drew ?_ | refine blk_alloc ?_ _)); exact BK120.out) NB120_126.out (by simp))
  have n1_ := Aside0.mk (KeepBut.blk hk (g' := gb121) (o := .cells #[.int .i64 0, .int .i64 0, .int .i64 0, .int .i64 0] 34 (0, 0)) (by (with_reducible repeat (first | refine blk_drewN ?_ _ | refine blk_drew ?_ | refine blk_alloc ?_ _)); exact BK121.out) NB121_126.out (by simp))
  have n2_ := Aside0.mk (KeepBut.blk hk (g' := gb122) (o := .cells #[.int .i64 0, .int .i64 0] 36 (0, 0)) (by (with_reducible repeat (first | refine blk_drewN ?_ _ | refine blk_drew ?_ | refine blk_alloc ?_ _)); exact BK122.out) NB122_126.out (by simp))
  have n3_ := Aside0.mk (KeepBut.blk hk (g' := gb133) (o := .cells #[.int .i64 t127, .int .i64 t130, .int .i64 (wrap64 (t127 + t134)), .int .i64 (wrap64 (t130 + t137))] 34 (0, 0)) (by (with_reducible repeat (first | refine blk_drewN ?_ _ | refine blk_drew ?_ | refine blk_alloc ?_ _)); exact BK133.out) NB133_126.out (by simp))
  have n4_ := Aside0.mk (KeepBut.blk hk (g' := gb146) (o := .cells #[.int .i64 t140, .int .i64 t143, .int .i64 (wrap64 (t140 + t147)), .int .i64 (wrap64 (t143 + t150))] 34 (0, 0)) (by (with_reducible repeat (first | refine blk_drewN ?_ _ | refine blk_drew ?_ | refine blk_alloc ?_ _)); exact BK146.out) NB146_126.out (by simp))
  have n5_ := Aside0.mk (hb)
  have n6_ := Aside0.mk (hi)
  clear BK120
  clear BK121
  clear BK122
  clear BK133
  clear BK146
  clear HB
  clear HI126
  have BK120 := n0_
  have BK121 := n1_
  have BK122 := n2_
  have BK133 := n3_
  have BK146 := n4_
  have HB := n5_
  have HI126 := n6_
  clear n0_ n1_ n2_ n3_ n4_ n5_ n6_
  (try clear hb)
  (try clear hb2)
  (try clear hk)
  (try clear hi)
  refine hK.out _ _ ⟨(blk_cell BK133.out 0).trans rfl, (blk_cell BK133.out 1).trans rfl, (blk_cell BK133.out 2).trans rfl, (blk_cell BK133.out 3).trans rfl, (blk_cell BK146.out 0).trans rfl, (blk_cell BK146.out 1).trans rfl, (blk_cell BK146.out 2).trans rfl, (blk_cell BK146.out 3).trans rfl⟩ (fun hHeld => ?_)
  clear hK K
  refine norm_ (a' := ?_) ?_ ?_
  rotate_left
  · show Act.put _ (some 47) _ = _
    simp only [Act.put, List.setIfInBounds_toArray, List.set_cons_zero, List.set_cons_succ, i64_w, i32_w]
    rfl
  refine one_ (i := 5) (N := some 49) #[true, true, true, true, true, true, false, false, false, false] rfl rfl (one_of HT_.out (by kernel_rfl)) (by decide) (fun K hK => ?_)
  refine goes_ Try.func29 (by kernel_rfl) rfl #[.pointer (some ⟨g126, 0, none⟩), .int .i64 18] (by rfl) rfl rfl (by (try simp only [List.map_toArray, List.map_cons, List.map_nil]); first | done | rfl | (simp only [List.length_drop, List.length_take]; rfl)) ?_
  with_reducible refine (spec_l01Below.calls g126 t123 t154 t155 18 t156 t157 t158 w _ ?side1 ?side2 A12.out).mono ?_
  (case side1 => repeat (first | (with_reducible first | exact HI126.out | apply IsS56.alloc | apply IsS56.drewN | apply IsS56.drew | apply IsS56.set_1 | apply IsS56.set_2 | refine IsS56.far ?_ NB126_120.out _ | refine IsS56.far ?_ NB126_121.out _ | refine IsS56.far ?_ NB126_122.out _ | refine IsS56.far ?_ NB126_133.out _ | refine IsS56.far ?_ NB126_146.out _) | exact HI126.out))
  (case side2 => repeat (first | (with_reducible first | exact HB.out | apply below_alloc | apply pw_below_drewN | apply below_drew1 | refine below_set ?_ (IsS56.ge HI126.out) | refine below_set ?_ GE120.out | refine below_set ?_ GE121.out | refine below_set ?_ GE122.out | refine below_set ?_ GE133.out | refine below_set ?_ GE146.out) | exact HB.out))
  rintro e w53 ⟨rfl, hi, hb, hk⟩
  refine ⟨_, rfl, ?_⟩
  have n0_ := Aside0.mk (KeepBut.blk hk (g' := gb120) (o := .cells #[.int .i64 0, .int .i64 0, .int .i64 0, .int .i64 0] 34 (0, 0)) (by (with_reducible repeat (first | refine blk_drewN ?_ _ | refine blk_drew ?_ | refine blk_alloc ?_ _)); exact BK120.out) NB120_126.out (by simp))
  have n1_ := Aside0.mk (KeepBut.blk hk (g' := gb121) (o := .cells #[.int .i64 0, .int .i64 0, .int .i64 0, .int .i64 0] 34 (0, 0)) (by (with_reducible repeat (first | refine blk_drewN ?_ _ | refine blk_drew ?_ | refine blk_alloc ?_ _)); exact BK121.out) NB121_126.out (by simp))
  have n2_ := Aside0.mk (KeepBut.blk hk (g' := gb122) (o := .cells #[.int .i64 0, .int .i64 0] 36 (0, 0)) (by (with_reducible repeat (first | refine blk_drewN ?_ _ | refine blk_drew ?_ | refine blk_alloc ?_ _)); exact BK122.out) NB122_126.out (by simp))
  have n3_ := Aside0.mk (KeepBut.blk hk (g' := gb133) (o := .cells #[.int .i64 t127, .int .i64 t130, .int .i64 (wrap64 (t127 + t134)), .int .i64 (wrap64 (t130 + t137))] 34 (0, 0)) (by (with_reducible repeat (first | refine blk_drewN ?_ _ | refine blk_drew ?_ | refine blk_alloc ?_ _)); exact BK133.out) NB133_126.out (by simp))
  have n4_ := Aside0.mk (KeepBut.blk hk (g' := gb146) (o := .cells #[.int .i64 t140, .int .i64 t143, .int .i64 (wrap64 (t140 + t147)), .int .i64 (wrap64 (t143 + t150))] 34 (0, 0)) (by (with_reducible repeat (first | refine blk_drewN ?_ _ | refine blk_drew ?_ | refine blk_alloc ?_ _)); exact BK146.out) NB146_126.out (by simp))
  have n5_ := Aside0.mk (hb)
  have n6_ := Aside0.mk (hi)
  clear BK120
  clear BK121
  clear BK122
  clear BK133
  clear BK146
  clear HB
  clear HI126
  have BK120 := n0_
  have BK121 := n1_
  have BK122 := n2_
  have BK133 := n3_
  have BK146 := n4_
  have HB := n5_
  have HI126 := n6_
  clear n0_ n1_ n2_ n3_ n4_ n5_ n6_
  (try clear hb)
  (try clear hb2)
  (try clear hk)
  (try clear hi)
  refine hK.out _ _ ⟨(blk_cell BK133.out 0).trans rfl, (blk_cell BK133.out 1).trans rfl, (blk_cell BK133.out 2).trans rfl, (blk_cell BK133.out 3).trans rfl, (blk_cell BK146.out 0).trans rfl, (blk_cell BK146.out 1).trans rfl, (blk_cell BK146.out 2).trans rfl, (blk_cell BK146.out 3).trans rfl⟩ (fun hHeld => ?_)
  clear hK K
  refine norm_ (a' := ?_) ?_ ?_
  rotate_left
  · show Act.put _ (some 49) _ = _
    simp only [Act.put, List.setIfInBounds_toArray, List.set_cons_zero, List.set_cons_succ, i64_w, i32_w]
    rfl
  refine pure_ (i := 6) (N := some 50) (v := ?_) (a' := ?_) #[true, true, true, true, true, true, true, false, false, false] rfl rfl (any_of HT_.out (by kernel_rfl)) (fun _ _ _ h => h) (Or.inl ⟨by rfl, ?_⟩) ?_ ?_
  rotate_left
  · intro w'
    go_simp
    with_reducible rfl
  rotate_left
  · simp only [Act.put, List.setIfInBounds_toArray, List.set_cons_zero, List.set_cons_succ, i64_w, i32_w]
    rfl
  refine one_ (i := 7) (N := none) #[true, true, true, true, true, true, true, true, false, false] rfl rfl (one_of HT_.out (by kernel_rfl)) (by decide) (fun K hK => ?_)
  have hs54 : w53.cell? ⟨gb120, 0, none⟩ = some (.int .i64 0) := (blk_cell BK120.out 0).trans rfl
  have hfs54 := blk_frozen BK120.out 0
  have hns54_1 := NB121_120.out
  have hns54_2 := NB122_120.out
  have hns54_3 := NB133_120.out
  have hns54_4 := NB146_120.out
  have hms54_1 := NB120_121.out
  have hms54_2 := NB120_122.out
  have hms54_3 := NB120_133.out
  have hms54_4 := NB120_146.out
  have hs55 : w53.cell? ⟨gb120, 1, none⟩ = some (.int .i64 0) := (blk_cell BK120.out 1).trans rfl
  have hfs55 := blk_frozen BK120.out 1
  have hns55_1 := NB121_120.out
  have hns55_2 := NB122_120.out
  have hns55_3 := NB133_120.out
  have hns55_4 := NB146_120.out
  have hms55_1 := NB120_121.out
  have hms55_2 := NB120_122.out
  have hms55_3 := NB120_133.out
  have hms55_4 := NB120_146.out
  have hs56 : w53.cell? ⟨gb120, 2, none⟩ = some (.int .i64 0) := (blk_cell BK120.out 2).trans rfl
  have hfs56 := blk_frozen BK120.out 2
  have hns56_1 := NB121_120.out
  have hns56_2 := NB122_120.out
  have hns56_3 := NB133_120.out
  have hns56_4 := NB146_120.out
  have hms56_1 := NB120_121.out
  have hms56_2 := NB120_122.out
  have hms56_3 := NB120_133.out
  have hms56_4 := NB120_146.out
  have hs57 : w53.cell? ⟨gb120, 3, none⟩ = some (.int .i64 0) := (blk_cell BK120.out 3).trans rfl
  have hfs57 := blk_frozen BK120.out 3
  have hns57_1 := NB121_120.out
  have hns57_2 := NB122_120.out
  have hns57_3 := NB133_120.out
  have hns57_4 := NB146_120.out
  have hms57_1 := NB120_121.out
  have hms57_2 := NB120_122.out
  have hms57_3 := NB120_133.out
  have hms57_4 := NB120_146.out
  refine skip_ (w1 := ?_) ?hw ?hn ?_ ?_; (case hw => kernel_rfl); (case hn => kernel_rfl)
  rotate_left
  · go_simp
    rfl
  refine hK.out _ _ ⟨((cell_far (p := ⟨gb120, _, none⟩) NB133_120.out _).trans (((cell_far (p := ⟨gb120, _, none⟩) NB133_120.out _).trans (((cell_far (p := ⟨gb120, _, none⟩) NB133_120.out _).trans (((cell_far (p := ⟨gb120, _, none⟩) NB133_120.out _).trans (hHeld.1)))))))), ((cell_far (p := ⟨gb120, _, none⟩) NB133_120.out _).trans (((cell_far (p := ⟨gb120, _, none⟩) NB133_120.out _).trans (((cell_far (p := ⟨gb120, _, none⟩) NB133_120.out _).trans (((cell_far (p := ⟨gb120, _, none⟩) NB133_120.out _).trans (hHeld.2.1)))))))), ((cell_far (p := ⟨gb120, _, none⟩) NB133_120.out _).trans (((cell_far (p := ⟨gb120, _, none⟩) NB133_120.out _).trans (((cell_far (p := ⟨gb120, _, none⟩) NB133_120.out _).trans (((cell_far (p := ⟨gb120, _, none⟩) NB133_120.out _).trans (hHeld.2.2.1)))))))), ((cell_far (p := ⟨gb120, _, none⟩) NB133_120.out _).trans (((cell_far (p := ⟨gb120, _, none⟩) NB133_120.out _).trans (((cell_far (p := ⟨gb120, _, none⟩) NB133_120.out _).trans (((cell_far (p := ⟨gb120, _, none⟩) NB133_120.out _).trans (hHeld.2.2.2.1)))))))), ((cell_far (p := ⟨gb120, _, none⟩) NB146_120.out _).trans (((cell_far (p := ⟨gb120, _, none⟩) NB146_120.out _).trans (((cell_far (p := ⟨gb120, _, none⟩) NB146_120.out _).trans (((cell_far (p := ⟨gb120, _, none⟩) NB146_120.out _).trans (hHeld.2.2.2.2.1)))))))), ((cell_far (p := ⟨gb120, _, none⟩) NB146_120.out _).trans (((cell_far (p := ⟨gb120, _, none⟩) NB146_120.out _).trans (((cell_far (p := ⟨gb120, _, none⟩) NB146_120.out _).trans (((cell_far (p := ⟨gb120, _, none⟩) NB146_120.out _).trans (hHeld.2.2.2.2.2.1)))))))), ((cell_far (p := ⟨gb120, _, none⟩) NB146_120.out _).trans (((cell_far (p := ⟨gb120, _, none⟩) NB146_120.out _).trans (((cell_far (p := ⟨gb120, _, none⟩) NB146_120.out _).trans (((cell_far (p := ⟨gb120, _, none⟩) NB146_120.out _).trans (hHeld.2.2.2.2.2.2.1)))))))), ((cell_far (p := ⟨gb120, _, none⟩) NB146_120.out _).trans (((cell_far (p := ⟨gb120, _, none⟩) NB146_120.out _).trans (((cell_far (p := ⟨gb120, _, none⟩) NB146_120.out _).trans (((cell_far (p := ⟨gb120, _, none⟩) NB146_120.out _).trans (hHeld.2.2.2.2.2.2.2))))))))⟩ (fun hHeld => ?_)
  clear hK K
  refine one_ (i := 8) (N := none) #[true, true, true, true, true, true, true, true, true, false] rfl rfl (one_of HT_.out (by kernel_rfl)) (by decide) (fun K hK => ?_)
  have hs58 : w53.cell? ⟨gb121, 0, none⟩ = some (.int .i64 0) := (blk_cell BK121.out 0).trans rfl
  have hfs58 := blk_frozen BK121.out 0
  have hns58_0 := NB120_121.out
  have hns58_2 := NB122_121.out
  have hns58_3 := NB133_121.out
  have hns58_4 := NB146_121.out
  have hms58_0 := NB121_120.out
  have hms58_2 := NB121_122.out
  have hms58_3 := NB121_133.out
  have hms58_4 := NB121_146.out
  have hs59 : w53.cell? ⟨gb121, 1, none⟩ = some (.int .i64 0) := (blk_cell BK121.out 1).trans rfl
  have hfs59 := blk_frozen BK121.out 1
  have hns59_0 := NB120_121.out
  have hns59_2 := NB122_121.out
  have hns59_3 := NB133_121.out
  have hns59_4 := NB146_121.out
  have hms59_0 := NB121_120.out
  have hms59_2 := NB121_122.out
  have hms59_3 := NB121_133.out
  have hms59_4 := NB121_146.out
  have hs60 : w53.cell? ⟨gb121, 2, none⟩ = some (.int .i64 0) := (blk_cell BK121.out 2).trans rfl
  have hfs60 := blk_frozen BK121.out 2
  have hns60_0 := NB120_121.out
  have hns60_2 := NB122_121.out
  have hns60_3 := NB133_121.out
  have hns60_4 := NB146_121.out
  have hms60_0 := NB121_120.out
  have hms60_2 := NB121_122.out
  have hms60_3 := NB121_133.out
  have hms60_4 := NB121_146.out
  have hs61 : w53.cell? ⟨gb121, 3, none⟩ = some (.int .i64 0) := (blk_cell BK121.out 3).trans rfl
  have hfs61 := blk_frozen BK121.out 3
  have hns61_0 := NB120_121.out
  have hns61_2 := NB122_121.out
  have hns61_3 := NB133_121.out
  have hns61_4 := NB146_121.out
  have hms61_0 := NB121_120.out
  have hms61_2 := NB121_122.out
  have hms61_3 := NB121_133.out
  have hms61_4 := NB121_146.out
  refine skip_ (w1 := ?_) ?hw ?hn ?_ ?_; (case hw => kernel_rfl); (case hn => kernel_rfl)
  rotate_left
  · go_simp
    rfl
  refine hK.out _ _ ⟨((cell_far (p := ⟨gb121, _, none⟩) NB133_121.out _).trans (((cell_far (p := ⟨gb121, _, none⟩) NB133_121.out _).trans (((cell_far (p := ⟨gb121, _, none⟩) NB133_121.out _).trans (((cell_far (p := ⟨gb121, _, none⟩) NB133_121.out _).trans (hHeld.1)))))))), ((cell_far (p := ⟨gb121, _, none⟩) NB133_121.out _).trans (((cell_far (p := ⟨gb121, _, none⟩) NB133_121.out _).trans (((cell_far (p := ⟨gb121, _, none⟩) NB133_121.out _).trans (((cell_far (p := ⟨gb121, _, none⟩) NB133_121.out _).trans (hHeld.2.1)))))))), ((cell_far (p := ⟨gb121, _, none⟩) NB133_121.out _).trans (((cell_far (p := ⟨gb121, _, none⟩) NB133_121.out _).trans (((cell_far (p := ⟨gb121, _, none⟩) NB133_121.out _).trans (((cell_far (p := ⟨gb121, _, none⟩) NB133_121.out _).trans (hHeld.2.2.1)))))))), ((cell_far (p := ⟨gb121, _, none⟩) NB133_121.out _).trans (((cell_far (p := ⟨gb121, _, none⟩) NB133_121.out _).trans (((cell_far (p := ⟨gb121, _, none⟩) NB133_121.out _).trans (((cell_far (p := ⟨gb121, _, none⟩) NB133_121.out _).trans (hHeld.2.2.2.1)))))))), ((cell_far (p := ⟨gb121, _, none⟩) NB146_121.out _).trans (((cell_far (p := ⟨gb121, _, none⟩) NB146_121.out _).trans (((cell_far (p := ⟨gb121, _, none⟩) NB146_121.out _).trans (((cell_far (p := ⟨gb121, _, none⟩) NB146_121.out _).trans (hHeld.2.2.2.2.1)))))))), ((cell_far (p := ⟨gb121, _, none⟩) NB146_121.out _).trans (((cell_far (p := ⟨gb121, _, none⟩) NB146_121.out _).trans (((cell_far (p := ⟨gb121, _, none⟩) NB146_121.out _).trans (((cell_far (p := ⟨gb121, _, none⟩) NB146_121.out _).trans (hHeld.2.2.2.2.2.1)))))))), ((cell_far (p := ⟨gb121, _, none⟩) NB146_121.out _).trans (((cell_far (p := ⟨gb121, _, none⟩) NB146_121.out _).trans (((cell_far (p := ⟨gb121, _, none⟩) NB146_121.out _).trans (((cell_far (p := ⟨gb121, _, none⟩) NB146_121.out _).trans (hHeld.2.2.2.2.2.2.1)))))))), ((cell_far (p := ⟨gb121, _, none⟩) NB146_121.out _).trans (((cell_far (p := ⟨gb121, _, none⟩) NB146_121.out _).trans (((cell_far (p := ⟨gb121, _, none⟩) NB146_121.out _).trans (((cell_far (p := ⟨gb121, _, none⟩) NB146_121.out _).trans (hHeld.2.2.2.2.2.2.2))))))))⟩ (fun hHeld => ?_)
  clear hK K
  refine one_ (i := 9) (N := none) #[true, true, true, true, true, true, true, true, true, true] rfl rfl (one_of HT_.out (by kernel_rfl)) (by decide) (fun K hK => ?_)
  have hs62 : w53.cell? ⟨gb122, 0, none⟩ = some (.int .i64 0) := (blk_cell BK122.out 0).trans rfl
  have hfs62 := blk_frozen BK122.out 0
  have hns62_0 := NB120_122.out
  have hns62_1 := NB121_122.out
  have hns62_3 := NB133_122.out
  have hns62_4 := NB146_122.out
  have hms62_0 := NB122_120.out
  have hms62_1 := NB122_121.out
  have hms62_3 := NB122_133.out
  have hms62_4 := NB122_146.out
  have hs63 : w53.cell? ⟨gb122, 1, none⟩ = some (.int .i64 0) := (blk_cell BK122.out 1).trans rfl
  have hfs63 := blk_frozen BK122.out 1
  have hns63_0 := NB120_122.out
  have hns63_1 := NB121_122.out
  have hns63_3 := NB133_122.out
  have hns63_4 := NB146_122.out
  have hms63_0 := NB122_120.out
  have hms63_1 := NB122_121.out
  have hms63_3 := NB122_133.out
  have hms63_4 := NB122_146.out
  refine skip_ (w1 := ?_) ?hw ?hn ?_ ?_; (case hw => kernel_rfl); (case hn => kernel_rfl)
  rotate_left
  · go_simp
    rfl
  refine hK.out _ _ ⟨((cell_far (p := ⟨gb122, _, none⟩) NB133_122.out _).trans (((cell_far (p := ⟨gb122, _, none⟩) NB133_122.out _).trans (hHeld.1)))), ((cell_far (p := ⟨gb122, _, none⟩) NB133_122.out _).trans (((cell_far (p := ⟨gb122, _, none⟩) NB133_122.out _).trans (hHeld.2.1)))), ((cell_far (p := ⟨gb122, _, none⟩) NB133_122.out _).trans (((cell_far (p := ⟨gb122, _, none⟩) NB133_122.out _).trans (hHeld.2.2.1)))), ((cell_far (p := ⟨gb122, _, none⟩) NB133_122.out _).trans (((cell_far (p := ⟨gb122, _, none⟩) NB133_122.out _).trans (hHeld.2.2.2.1)))), ((cell_far (p := ⟨gb122, _, none⟩) NB146_122.out _).trans (((cell_far (p := ⟨gb122, _, none⟩) NB146_122.out _).trans (hHeld.2.2.2.2.1)))), ((cell_far (p := ⟨gb122, _, none⟩) NB146_122.out _).trans (((cell_far (p := ⟨gb122, _, none⟩) NB146_122.out _).trans (hHeld.2.2.2.2.2.1)))), ((cell_far (p := ⟨gb122, _, none⟩) NB146_122.out _).trans (((cell_far (p := ⟨gb122, _, none⟩) NB146_122.out _).trans (hHeld.2.2.2.2.2.2.1)))), ((cell_far (p := ⟨gb122, _, none⟩) NB146_122.out _).trans (((cell_far (p := ⟨gb122, _, none⟩) NB146_122.out _).trans (hHeld.2.2.2.2.2.2.2))))⟩ (fun hHeld => ?_)
  clear hK K
  refine done_ (done_of HT_.out (by kernel_rfl)) ?_
  try go_wp2
  refine bodyPost_ret (results_list (rs := [.cell 2 34, .cell 3 34, .cell 4 36]) rfl (by simp) (.cell gb120 34 #[.int .i64 t127, .int .i64 t130, .int .i64 (wrap64 (t127 + t134)), .int .i64 (wrap64 (t130 + t137))] (0, 0) _ rfl (by (with_reducible repeat (first | refine blk_drewN ?_ _ | refine blk_drew ?_ | refine blk_alloc ?_ _)); refine blk_far ?_ NB120_122.out _; (with_reducible repeat (first | refine blk_drewN ?_ _ | refine blk_drew ?_ | refine blk_alloc ?_ _)); refine blk_far ?_ NB120_122.out _; (with_reducible repeat (first | refine blk_drewN ?_ _ | refine blk_drew ?_ | refine blk_alloc ?_ _)); refine blk_far ?_ NB120_121.out _; (with_reducible repeat (first | refine blk_drewN ?_ _ | refine blk_drew ?_ | refine blk_alloc ?_ _)); refine blk_far ?_ NB120_121.out _; (with_reducible repeat (first | refine blk_drewN ?_ _ | refine blk_drew ?_ | refine blk_alloc ?_ _)); refine blk_far ?_ NB120_121.out _; (with_reducible repeat (first | refine blk_drewN ?_ _ | refine blk_drew ?_ | refine blk_alloc ?_ _)); refine blk_far ?_ NB120_121.out _; (with_reducible repeat (first | refine blk_drewN ?_ _ | refine blk_drew ?_ | refine blk_alloc ?_ _)); refine blk_put (cs := #[.int .i64 t127, .int .i64 t130, .int .i64 (wrap64 (t127 + t134)), .int .i64 0]) ?_ 3 _ rfl; (with_reducible repeat (first | refine blk_drewN ?_ _ | refine blk_drew ?_ | refine blk_alloc ?_ _)); refine blk_put (cs := #[.int .i64 t127, .int .i64 t130, .int .i64 0, .int .i64 0]) ?_ 2 _ rfl; (with_reducible repeat (first | refine blk_drewN ?_ _ | refine blk_drew ?_ | refine blk_alloc ?_ _)); refine blk_put (cs := #[.int .i64 t127, .int .i64 0, .int .i64 0, .int .i64 0]) ?_ 1 _ rfl; (with_reducible repeat (first | refine blk_drewN ?_ _ | refine blk_drew ?_ | refine blk_alloc ?_ _)); refine blk_put (cs := #[.int .i64 0, .int .i64 0, .int .i64 0, .int .i64 0]) ?_ 0 _ rfl; (with_reducible repeat (first | refine blk_drewN ?_ _ | refine blk_drew ?_ | refine blk_alloc ?_ _)); exact BK120.out) Try.underlying34 rfl (by kernel_rfl) (.cell gb121 34 #[.int .i64 t140, .int .i64 t143, .int .i64 (wrap64 (t140 + t147)), .int .i64 (wrap64 (t143 + t150))] (0, 0) _ rfl (by (with_reducible repeat (first | refine blk_drewN ?_ _ | refine blk_drew ?_ | refine blk_alloc ?_ _)); refine blk_far ?_ NB121_122.out _; (with_reducible repeat (first | refine blk_drewN ?_ _ | refine blk_drew ?_ | refine blk_alloc ?_ _)); refine blk_far ?_ NB121_122.out _; (with_reducible repeat (first | refine blk_drewN ?_ _ | refine blk_drew ?_ | refine blk_alloc ?_ _)); refine blk_put (cs := #[.int .i64 t140, .int .i64 t143, .int .i64 (wrap64 (t140 + t147)), .int .i64 0]) ?_ 3 _ rfl; (with_reducible repeat (first | refine blk_drewN ?_ _ | refine blk_drew ?_ | refine blk_alloc ?_ _)); refine blk_put (cs := #[.int .i64 t140, .int .i64 t143, .int .i64 0, .int .i64 0]) ?_ 2 _ rfl; (with_reducible repeat (first | refine blk_drewN ?_ _ | refine blk_drew ?_ | refine blk_alloc ?_ _)); refine blk_put (cs := #[.int .i64 t140, .int .i64 0, .int .i64 0, .int .i64 0]) ?_ 1 _ rfl; (with_reducible repeat (first | refine blk_drewN ?_ _ | refine blk_drew ?_ | refine blk_alloc ?_ _)); refine blk_put (cs := #[.int .i64 0, .int .i64 0, .int .i64 0, .int .i64 0]) ?_ 0 _ rfl; (with_reducible repeat (first | refine blk_drewN ?_ _ | refine blk_drew ?_ | refine blk_alloc ?_ _)); refine blk_far ?_ NB121_120.out _; (with_reducible repeat (first | refine blk_drewN ?_ _ | refine blk_drew ?_ | refine blk_alloc ?_ _)); refine blk_far ?_ NB121_120.out _; (with_reducible repeat (first | refine blk_drewN ?_ _ | refine blk_drew ?_ | refine blk_alloc ?_ _)); refine blk_far ?_ NB121_120.out _; (with_reducible repeat (first | refine blk_drewN ?_ _ | refine blk_drew ?_ | refine blk_alloc ?_ _)); refine blk_far ?_ NB121_120.out _; (with_reducible repeat (first | refine blk_drewN ?_ _ | refine blk_drew ?_ | refine blk_alloc ?_ _)); exact BK121.out) Try.underlying34 rfl (by kernel_rfl) (.cell gb122 36 #[.int .i64 t153, .int .i64 t156] (0, 0) _ rfl (by (with_reducible repeat (first | refine blk_drewN ?_ _ | refine blk_drew ?_ | refine blk_alloc ?_ _)); refine blk_put (cs := #[.int .i64 t153, .int .i64 0]) ?_ 1 _ rfl; (with_reducible repeat (first | refine blk_drewN ?_ _ | refine blk_drew ?_ | refine blk_alloc ?_ _)); refine blk_put (cs := #[.int .i64 0, .int .i64 0]) ?_ 0 _ rfl; (with_reducible repeat (first | refine blk_drewN ?_ _ | refine blk_drew ?_ | refine blk_alloc ?_ _)); refine blk_far ?_ NB122_121.out _; (with_reducible repeat (first | refine blk_drewN ?_ _ | refine blk_drew ?_ | refine blk_alloc ?_ _)); refine blk_far ?_ NB122_121.out _; (with_reducible repeat (first | refine blk_drewN ?_ _ | refine blk_drew ?_ | refine blk_alloc ?_ _)); refine blk_far ?_ NB122_121.out _; (with_reducible repeat (first | refine blk_drewN ?_ _ | refine blk_drew ?_ | refine blk_alloc ?_ _)); refine blk_far ?_ NB122_121.out _; (with_reducible repeat (first | refine blk_drewN ?_ _ | refine blk_drew ?_ | refine blk_alloc ?_ _)); refine blk_far ?_ NB122_120.out _; (with_reducible repeat (first | refine blk_drewN ?_ _ | refine blk_drew ?_ | refine blk_alloc ?_ _)); refine blk_far ?_ NB122_120.out _; (with_reducible repeat (first | refine blk_drewN ?_ _ | refine blk_drew ?_ | refine blk_alloc ?_ _)); refine blk_far ?_ NB122_120.out _; (with_reducible repeat (first | refine blk_drewN ?_ _ | refine blk_drew ?_ | refine blk_alloc ?_ _)); refine blk_far ?_ NB122_120.out _; (with_reducible repeat (first | refine blk_drewN ?_ _ | refine blk_drew ?_ | refine blk_alloc ?_ _)); exact BK122.out) Try.underlying36 rfl (by kernel_rfl) .nil)))) rfl ?_
  exact ⟨by first | rfl | (simp [errW_none, errW_some] <;> rfl) | (simp [*, errW_none, errW_some] <;> rfl), by repeat (first | (with_reducible first | exact HB.out | apply below_alloc | apply pw_below_drewN | apply below_drew1 | refine below_set ?_ (IsS56.ge HI126.out) | refine below_set ?_ GE120.out | refine below_set ?_ GE121.out | refine below_set ?_ GE122.out | refine below_set ?_ GE133.out | refine below_set ?_ GE146.out) | exact HB.out)⟩

end Go.Proofs.Ytpeopmkgabfjbaa.PFnBoxes
