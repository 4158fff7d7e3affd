/- The walks of FnPaths, part 12: what the print wrote, with some proofs of the session's own. -/
import Derived.Test.YtpmgfmalpijjbaaDoorName
import Derived.Test.YtpmgfmalpijjbaaDoorShort
import Derived.Test.YtpmgfmalpijjbaaDoorQFnPathsx0
import Derived.Test.YtpmgfmalpijjbaaDoorQFnPathsx9
import Derived.Test.YtpmgfmalpijjbaaDoorQFnPathsx10
namespace Go.Proofs.YtpmgfmalpijjbaaDoor.PFnPaths
open Go.RowKit Go.Proofs.YtpmgfmalpijjbaaDoor.Short Go.Proofs.YtpmgfmalpijjbaaDoorW.PrintWords Go.Proofs.YtpmgfmalpijjbaaDoorW.PrintLast Go.Proofs.YtpmgfmalpijjbaaDoorW.PrintMore
attribute [local go_sem] max2_int min2_int max_two min_two max_three min_three max_four min_four   -- for this text's walks alone
set_option linter.unusedVariables false
set_option linter.unusedSimpArgs false

/-! ### spec_l04AnyPoint: function 69 -/
def spec_l04AnyPoint.j0 : Nat → List Int → Int → Int → Int → Int → Option (Int × Int × Int × Int)
  | 0, _, _, _, _, _ => none
  | k + 1, x1000, x1001, x1002, x347000, x347001 => (spec_l01Once.f x1000 x1001 x1002 16).bind fun bt356 => (if bt356.1 = true then ((spec_l01PickInt.f x1000 bt356.2.1 bt356.2.2 (([(-8388608), 8388608, 8388609] : List Int))).bind fun bt362 => (some (x347000, bt362.1, bt362.2.1, bt362.2.2))) else (some (x347000, x347001, bt356.2.1, bt356.2.2)))
def spec_l04AnyPoint.f (k : Nat) (s0_0 : List Int) (s0_1 : Int) (s0_2 : Int) : Option (Int × Int × Int × Int) := (spec_l04Point.f s0_0 s0_1 s0_2).bind fun bt342 => ((spec_l01Once.f s0_0 bt342.2.2.1 bt342.2.2.2 12).bind fun bt347 => (if bt347.1 = true then ((spec_l01PickInt.f s0_0 bt347.2.1 bt347.2.2 (([(-8388608), 8388608, 8388609, (-8388609), 9223372036854775807, (-9223372036854775808)] : List Int))).bind fun bt353 => (spec_l04AnyPoint.j0 k s0_0 bt353.2.1 bt353.2.2 bt353.1 bt342.2.1)) else (spec_l04AnyPoint.j0 k s0_0 bt347.2.1 bt347.2.2 bt342.1 bt342.2.1)))
set_option maxHeartbeats 8000000 in
set_option maxRecDepth 100000 in
theorem spec_l04AnyPoint.calls (k : Nat) (g : Nat) (s0_0 : List Int) (s0_1 : Int) (s0_2 : Int) (r1 : Int) (r2 : Int) (r3 : Int) (r4 : Int) (w0 w : World) (hI : IsS92 w0 w g s0_0 s0_1 s0_2) (hB : Below w0.heap.size w0 w) (h : spec_l04AnyPoint.f k s0_0 s0_1 s0_2 = some (r1, r2, r3, r4)) :
    Calls Tryd.prog 69 #[.pointer (some ⟨g, 0, none⟩)] w fun e w' => e = .returned (.agg #[.int .i64 r1, .int .i64 r2]) ∧ IsS92 w0 w' g s0_0 r3 r4 ∧ Below w0.heap.size w0 w' ∧ KeepBut w w' g none := by
 have hu55 := Tryd.underlying55
 have HI0 := Aside0.mk hI
 have HK := Aside0.mk (KeepBut.refl w g none)
 have HL := Aside0.mk hB.size
 clear hI
 have HW0 := Aside0.mk hB.size
 have HB := Aside0.mk hB
 clear hB
 have H : ((spec_l04Point.f s0_0 s0_1 s0_2).bind fun bt342 => ((spec_l01Once.f s0_0 bt342.2.2.1 bt342.2.2.2 12).bind fun bt347 => (if bt347.1 = true then ((spec_l01PickInt.f s0_0 bt347.2.1 bt347.2.2 (([(-8388608), 8388608, 8388609, (-8388609), 9223372036854775807, (-9223372036854775808)] : List Int))).bind fun bt353 => (spec_l04AnyPoint.j0 k s0_0 bt353.2.1 bt353.2.2 bt353.1 bt342.2.1)) else (spec_l04AnyPoint.j0 k s0_0 bt347.2.1 bt347.2.2 bt342.1 bt342.2.1)))) = some (r1, r2, r3, r4) := h
 clear h
 replace H := Option.bind_eq_some_iff.mp H
 obtain ⟨⟨t342, t343, t344, t345⟩, A20, H⟩ := H
 try dsimp only at H
 have A2 := Aside0.mk A20
 clear A20
 replace H := Option.bind_eq_some_iff.mp H
 obtain ⟨⟨t347, t348, t349⟩, A30, H⟩ := H
 try dsimp only at H
 have A3 := Aside0.mk A30
 clear A30
 have HC4 := Aside0.mk H
 clear H
 go_enter Tryd.func69, Tryd.ntmps69
 go_upto_if 7 with (first | ((with_reducible refine gate_dst (N := 2) rfl ?_); refine box_event ?hg (N := 2) ?hd (cs := #[.int .i64 0, .int .i64 0]) (t := 55) ?hr ?_; (case hd => rfl); (case hg => rfl); (case hr => first | (go_simp; done) | (go_simp; rfl)); intro gb341 hg w5 hbox hb; replace HB := Aside0.mk (below_step bI hb); have BK341 := Aside0.mk (hbox); have GW341 := Aside0.mk ((by rw [hg]; exact (kz w g) : w.heap.size ≤ gb341)); have GE341 := Aside0.mk ((Nat.le_trans HW0.out (by rw [hg]; exact (kz w g) : w.heap.size ≤ gb341) : w0.heap.size ≤ gb341)); replace HK := Aside0.mk (KeepBut.trans kS (KeepBut.of_below hb g none) (.inl rfl)); have NB0_341 := Aside0.mk ((by rw [hg]; exact Nat.ne_of_lt (IsS92.lt (show IsS92 w0 _ g s0_0 s0_1 s0_2 from iS)) : g ≠ gb341)); have NB341_0 := Aside0.mk ((by rw [hg]; exact Nat.ne_of_gt (IsS92.lt (show IsS92 w0 _ g s0_0 s0_1 s0_2 from iS)) : gb341 ≠ g)); replace HI0 := Aside0.mk (IsS92.below iS hb); clear hb hbox hg) | ((with_reducible refine gate_callee (f := 84) rfl ?_); refine goesL_ (some 5) rfl rfl Tryd.func84 (by kernel_rfl) rfl #[.pointer (some ⟨g, 0, none⟩)] rfl lm_ ?_; (with_reducible refine (spec_l04Point.calls g s0_0 s0_1 s0_2 t342 t343 t344 t345 w0 _ ?side1 ?side2 A2.out).mono ?_); (case side1 => exact iS); (case side2 => exact bI); rintro e w6 ⟨rfl, hi, hb, hk⟩; refine ⟨_, rfl, ?_⟩; replace BK341 := Aside0.mk (KeepBut.blk hk (bk_ BK341.out) NB341_0.out (by simp)); replace HK := Aside0.mk (KeepBut.trans kS hk (.inl rfl)); replace HB := Aside0.mk (hb); replace HI0 := Aside0.mk (hi); (try clear hb hk hi)) | ((with_reducible refine gate_dst (N := 3) rfl ?_); refine box_event ?hg (N := 3) ?hd (cs := #[.int .i64 0, .int .i64 0]) (t := 55) ?hr ?_; (case hd => rfl); (case hg => rfl); (case hr => first | (go_simp; done) | (go_simp; rfl)); intro gb346 hg w7 hbox hb; replace HB := Aside0.mk (below_step bI hb); have BK346 := Aside0.mk (hbox); have GW346 := Aside0.mk ((by rw [hg]; exact (kz w g) : w.heap.size ≤ gb346)); have GE346 := Aside0.mk ((Nat.le_trans HW0.out (by rw [hg]; exact (kz w g) : w.heap.size ≤ gb346) : w0.heap.size ≤ gb346)); replace HK := Aside0.mk (KeepBut.trans kS (KeepBut.of_below hb g none) (.inl rfl)); have NB341_346 := Aside0.mk ((by rw [hg]; exact Nat.ne_of_lt (blk_lt (bk_ BK341.out)) : gb341 ≠ gb346)); have NB346_341 := Aside0.mk ((by rw [hg]; exact Nat.ne_of_gt (blk_lt (bk_ BK341.out)) : gb346 ≠ gb341)); replace BK341 := Aside0.mk (blk_below (bk_ BK341.out) hb); have NB0_346 := Aside0.mk ((by rw [hg]; exact Nat.ne_of_lt (IsS92.lt (show IsS92 w0 _ g s0_0 t344 t345 from iS)) : g ≠ gb346)); have NB346_0 := Aside0.mk ((by rw [hg]; exact Nat.ne_of_gt (IsS92.lt (show IsS92 w0 _ g s0_0 t344 t345 from iS)) : gb346 ≠ g)); replace HI0 := Aside0.mk (IsS92.below iS hb); clear hb hbox hg; have hnb8 := NB346_341.out; have hnc8 := NB341_346.out; have hnb9 := NB346_0.out; have hnc9 := NB0_346.out; have hcz10_0 : w7.cell? ⟨gb346, 0, none⟩ = some (.int .i64 0) := (blk_cell BK346.out 0).trans rfl; have hcz10_1 : w7.cell? ⟨gb346, 1, none⟩ = some (.int .i64 0) := (blk_cell BK346.out 1).trans rfl; have hfz10_0 := blk_frozen BK346.out 0; have hfz10_1 := blk_frozen BK346.out 1) | ((with_reducible refine gate_callee (f := 81) rfl ?_); refine goesL_ (some 7) rfl rfl Tryd.func81 (by kernel_rfl) rfl #[.pointer (some ⟨g, 0, none⟩), .int .i64 12] rfl lm_ ?_; (with_reducible refine (spec_l01Once.calls g s0_0 t344 t345 12 t347 t348 t349 w0 _ ?side1 ?side2 A3.out).mono ?_); (case side1 => exact iS); (case side2 => exact bI); rintro e w11 ⟨rfl, hi, hb, hk⟩; refine ⟨_, rfl, ?_⟩; replace BK341 := Aside0.mk (KeepBut.blk hk (bf_ BK341.out) NB341_0.out (by simp)); replace BK346 := Aside0.mk (KeepBut.blk hk (g' := gb346) (o := .cells #[.int .i64 t342, .int .i64 t343] 55 (0, 0)) (by refine bk_ ?_; refine blk_put (cs := #[.int .i64 t342, .int .i64 0]) ?_ 1 _ rfl; refine bk_ ?_; refine blk_put (cs := #[.int .i64 0, .int .i64 0]) ?_ 0 _ rfl; exact bk_ BK346.out) NB346_0.out (by simp)); replace HK := Aside0.mk (KeepBut.trans kS hk (.inl rfl)); replace HB := Aside0.mk (hb); replace HI0 := Aside0.mk (hi); (try clear hb hk hi)))
 (try simp only [PQ])
 go_cut [] (fun wc => ∃ (kq : Nat) (x1001_3 : Int) (x1002_3 : Int) (x347000_3 : Int), Aside0 (spec_l04AnyPoint.j0 kq s0_0 x1001_3 x1002_3 x347000_3 t343 = some (r1, r2, r3, r4)) ∧ Aside0 (kq ≤ k) ∧ Aside0 (wc.heap[gb341]? = some (.cells #[.int .i64 0, .int .i64 0] 55 (0, 0))) ∧ Aside0 (wc.heap[gb346]? = some (.cells #[.int .i64 x347000_3, .int .i64 t343] 55 (0, 0))) ∧ Aside0 (IsS92 w0 wc g s0_0 x1001_3 x1002_3) ∧ Aside0 (KeepBut w wc g none) ∧ Aside0 (Below w0.heap.size w0 wc))
 case first =>
  have H := HC4.out
  clear HC4
  by_cases c12 : t347 = true
  ·subst c12
   have H1 : ((spec_l01PickInt.f s0_0 t348 t349 (([(-8388608), 8388608, 8388609, (-8388609), 9223372036854775807, (-9223372036854775808)] : List Int))).bind fun bt353 => (spec_l04AnyPoint.j0 k s0_0 bt353.2.1 bt353.2.2 bt353.1 t343)) = some (r1, r2, r3, r4) := by rw [if_pos rfl] at H; exact H
   clear H
   have H := H1
   clear H1
   obtain ⟨y350, hy350⟩ : ∃ y_ : List Int, y_ = (([(-8388608), 8388608, 8388609, (-8388609), 9223372036854775807, (-9223372036854775808)] : List Int)) := ⟨_, rfl⟩
   replace H : ((spec_l01PickInt.f s0_0 t348 t349 y350).bind fun bt353 => (spec_l04AnyPoint.j0 k s0_0 bt353.2.1 bt353.2.2 bt353.1 t343)) = some (r1, r2, r3, r4) := by first | (rw [hy350]; with_reducible exact H) | (have H2_ := (Option.bind_some _ _).symm.trans H; rw [hy350]; with_reducible exact H2_) | (have H2_ := (Option.bind_some _ _).symm.trans H; with_reducible exact H2_) | with_reducible exact H | (rw [hy350]; exact H) | exact H
   have Ny350 := Aside0.mk hy350
   clear hy350
   replace H := Option.bind_eq_some_iff.mp H
   obtain ⟨⟨t353, t354, t355⟩, A130, H⟩ := H
   try dsimp only at H
   have A13 := Aside0.mk A130
   clear A130
   have H' := Aside0.mk H
   clear H
   go_wp2_with (first | ((with_reducible refine gate_dst (N := 9) rfl ?_); refine Kd.R_lit (Kd.int .i64) _ 3 ?hg (N := 9) ?hd (xs := ([(-8388608), 8388608, 8388609, (-8388609), 9223372036854775807, (-9223372036854775808)] : List Int)) (inner := [.int .i64 (-8388608), .int .i64 8388608, .int .i64 8388609, .int .i64 (-8388609), .int .i64 9223372036854775807, .int .i64 (-9223372036854775808)]) (ok := fun _ => True) (okp := fun _ => True) ?hr ?hp (fun _ hk => hk) trivial (Below.refl _ _) (Nat.le_refl _) (by simp) ?_; (case hd => rfl); (case hg => rfl); (case hr => first | (go_simp; done) | (go_simp; rfl)); (case hp => exact (Reps.one (show Kd.M (Kd.int .i64) _ _ _ (-8388608) [.int .i64 (-8388608)] from rfl) (Reps.one (show Kd.M (Kd.int .i64) _ _ _ 8388608 [.int .i64 8388608] from rfl) (Reps.one (show Kd.M (Kd.int .i64) _ _ _ 8388609 [.int .i64 8388609] from rfl) (Reps.one (show Kd.M (Kd.int .i64) _ _ _ (-8388609) [.int .i64 (-8388609)] from rfl) (Reps.one (show Kd.M (Kd.int .i64) _ _ _ 9223372036854775807 [.int .i64 9223372036854775807] from rfl) (Reps.one (show Kd.M (Kd.int .i64) _ _ _ (-9223372036854775808) [.int .i64 (-9223372036854775808)] from rfl) (Reps.none _ _)))))))); intro v351 w14 ho15 hb hg_ hnew_; clear hg_ hnew_; (first | rw [← Ny350.out] at ho15 | (simp only [Int.reduceToNat] at ho15; rw [← Ny350.out] at ho15)); have HO352 := Aside0.mk (Kd.R_lower ho15 (kz w g)); replace BK341 := Aside0.mk (blk_below (bk_ BK341.out) hb); replace BK346 := Aside0.mk (blk_below (bk_ BK346.out) hb); replace HK := Aside0.mk (KeepBut.trans kS (KeepBut.of_below hb g none) (.inl rfl)); replace HB := Aside0.mk (below_step bI hb); replace HI0 := Aside0.mk (IsS92.below iS hb); clear hb ho15; obtain ⟨Ao16, co16, eo16⟩ := Kd.R_slice HO352.out; subst eo16) | ((with_reducible refine gate_callee (f := 83) rfl ?_); refine goesL_ (some 10) rfl rfl Tryd.func83 (by kernel_rfl) rfl #[.pointer (some ⟨g, 0, none⟩), .slice Ao16 y350.length co16] rfl lm_ ?_; (with_reducible refine (spec_l01PickInt.calls g s0_0 t348 t349 _ _ y350 t353 t354 t355 w0 _ ?side1 ?side2 ?side3 ?side4 ?side5 A13.out).mono ?_); (case side1 => exact iS); (case side2 => exact bI); (case side3 => exact cc_ (Kd.R_reads' HO352.out).2.2); (case side4 => exact (Kd.R_reads' HO352.out).2.1); (case side5 => exact far_slice (IsS92.own_ne HI0.out HO352.out (by decide))); rintro e w17 ⟨rfl, hi, hb, hk⟩; refine ⟨_, rfl, ?_⟩; replace BK341 := Aside0.mk (KeepBut.blk hk (bk_ BK341.out) NB341_0.out (by simp)); replace BK346 := Aside0.mk (KeepBut.blk hk (bk_ BK346.out) NB346_0.out (by simp)); replace HO352 := Aside0.mk (Kd.R_mono (Kd.R_keep (IsS92.apart (show IsS92 w0 _ g s0_0 t348 t349 from iS) (rr_ HO352.out) (by decide)) hk (fun _ h => h.2)) (fun _ h => h.1)); replace HK := Aside0.mk (KeepBut.trans kS hk (.inl rfl)); replace HB := Aside0.mk (hb); replace HI0 := Aside0.mk (hi); (try clear hb hk hi); have hnb18 := NB346_341.out; have hnc18 := NB341_346.out; have hnb19 := NB346_0.out; have hnc19 := NB0_346.out; have hcz20_0 : w17.cell? ⟨gb346, 0, none⟩ = some (.int .i64 t342) := (blk_cell BK346.out 0).trans rfl; have hcz20_1 : w17.cell? ⟨gb346, 1, none⟩ = some (.int .i64 t343) := (blk_cell BK346.out 1).trans rfl; have hfz20_0 := blk_frozen BK346.out 0; have hfz20_1 := blk_frozen BK346.out 1))
   go_meet
   case rel => exact ⟨_, (t354), (t355), (t353), H', ⟨by first | omega | exact Nat.le_refl _⟩, ⟨bf_ BK341.out⟩, ⟨by refine bk_ ?_; refine blk_put (cs := #[.int .i64 t342, .int .i64 t343]) ?_ 0 _ rfl; exact bk_ BK346.out⟩, ⟨iS⟩, ⟨kS⟩, ⟨bI⟩⟩
  ·replace c12 := Bool.eq_false_iff.mpr c12
   subst c12
   have H1 : (spec_l04AnyPoint.j0 k s0_0 t348 t349 t342 t343) = some (r1, r2, r3, r4) := by rw [if_neg (show ¬ (false = true) by decide)] at H; exact H
   clear H
   have H := H1
   clear H1
   have H' := Aside0.mk H
   clear H
   go_wp2
   go_meet
   case rel => exact ⟨_, (t348), (t349), (t342), H', ⟨by first | omega | exact Nat.le_refl _⟩, ⟨bk_ BK341.out⟩, ⟨bk_ BK346.out⟩, ⟨iS⟩, ⟨kS⟩, ⟨bI⟩⟩
 case rest =>
  clear HC4
  try clear c1
  try clear p2
  try clear c6
  try clear c8
  try clear c9
  try clear c12
  try clear c18
  try clear c19
  try clear hcz10_0
  try clear hcz10_1
  try clear hcz20_0
  try clear hcz20_1
  try clear hfz10_0
  try clear hfz10_1
  try clear hfz20_0
  try clear hfz20_1
  obtain ⟨kq, x1001_3, x1002_3, x347000_3, HA, HJ3, BK341, BK346, HI0, HK, HB⟩ := hcut
  cases kq with
  | zero => exact absurd HA.out (by simp [spec_l04AnyPoint.j0])
  | succ kj3 =>
   have H := HA.out
   clear HA
   simp only [spec_l04AnyPoint.j0] at H
   replace H := Option.bind_eq_some_iff.mp H
   obtain ⟨⟨t356, t357, t358⟩, A210, H⟩ := H
   try dsimp only at H
   have A21 := Aside0.mk A210
   clear A210
   by_cases c22 : t356 = true
   ·subst c22
    have H1 : ((spec_l01PickInt.f s0_0 t357 t358 (([(-8388608), 8388608, 8388609] : List Int))).bind fun bt362 => (some (x347000_3, bt362.1, bt362.2.1, bt362.2.2))) = some (r1, r2, r3, r4) := by rw [if_pos rfl] at H; exact H
    clear H
    have H := H1
    clear H1
    obtain ⟨y359, hy359⟩ : ∃ y_ : List Int, y_ = (([(-8388608), 8388608, 8388609] : List Int)) := ⟨_, rfl⟩
    replace H : ((spec_l01PickInt.f s0_0 t357 t358 y359).bind fun bt362 => (some (x347000_3, bt362.1, bt362.2.1, bt362.2.2))) = some (r1, r2, r3, r4) := by first | (rw [hy359]; with_reducible exact H) | (have H2_ := (Option.bind_some _ _).symm.trans H; rw [hy359]; with_reducible exact H2_) | (have H2_ := (Option.bind_some _ _).symm.trans H; with_reducible exact H2_) | with_reducible exact H | (rw [hy359]; exact H) | exact H
    have Ny359 := Aside0.mk hy359
    clear hy359
    replace H := Option.bind_eq_some_iff.mp H
    obtain ⟨⟨t362, t363, t364⟩, A230, H⟩ := H
    try dsimp only at H
    have A23 := Aside0.mk A230
    clear A230
    simp only [Option.some.injEq, Prod.mk.injEq] at H
    obtain ⟨rfl, rfl, rfl, rfl⟩ := H
    go_wp2_with (first | ((with_reducible refine gate_callee (f := 81) rfl ?_); refine goesL_ (some 13) rfl rfl Tryd.func81 (by kernel_rfl) rfl #[.pointer (some ⟨g, 0, none⟩), .int .i64 16] rfl lm_ ?_; (with_reducible refine (spec_l01Once.calls g s0_0 x1001_3 x1002_3 16 true t357 t358 w0 _ ?side1 ?side2 A21.out).mono ?_); (case side1 => exact iS); (case side2 => exact bI); rintro e w24 ⟨rfl, hi, hb, hk⟩; refine ⟨_, rfl, ?_⟩; replace BK341 := Aside0.mk (KeepBut.blk hk (bk_ BK341.out) NB341_0.out (by simp)); replace BK346 := Aside0.mk (KeepBut.blk hk (bk_ BK346.out) NB346_0.out (by simp)); replace HK := Aside0.mk (KeepBut.trans kS hk (.inl rfl)); replace HB := Aside0.mk (hb); replace HI0 := Aside0.mk (hi); (try clear hb hk hi)) | ((with_reducible refine gate_dst (N := 15) rfl ?_); refine Kd.R_lit (Kd.int .i64) _ 3 ?hg (N := 15) ?hd (xs := ([(-8388608), 8388608, 8388609] : List Int)) (inner := [.int .i64 (-8388608), .int .i64 8388608, .int .i64 8388609]) (ok := fun _ => True) (okp := fun _ => True) ?hr ?hp (fun _ hk => hk) trivial (Below.refl _ _) (Nat.le_refl _) (by simp) ?_; (case hd => rfl); (case hg => rfl); (case hr => first | (go_simp; done) | (go_simp; rfl)); (case hp => exact (Reps.one (show Kd.M (Kd.int .i64) _ _ _ (-8388608) [.int .i64 (-8388608)] from rfl) (Reps.one (show Kd.M (Kd.int .i64) _ _ _ 8388608 [.int .i64 8388608] from rfl) (Reps.one (show Kd.M (Kd.int .i64) _ _ _ 8388609 [.int .i64 8388609] from rfl) (Reps.none _ _))))); intro v360 w25 ho26 hb hg_ hnew_; clear hg_ hnew_; (first | rw [← Ny359.out] at ho26 | (simp only [Int.reduceToNat] at ho26; rw [← Ny359.out] at ho26)); have HO361 := Aside0.mk (Kd.R_lower ho26 (kz w g)); replace BK341 := Aside0.mk (blk_below (bk_ BK341.out) hb); replace BK346 := Aside0.mk (blk_below (bk_ BK346.out) hb); replace HK := Aside0.mk (KeepBut.trans kS (KeepBut.of_below hb g none) (.inl rfl)); replace HB := Aside0.mk (below_step bI hb); replace HI0 := Aside0.mk (IsS92.below iS hb); clear hb ho26; obtain ⟨Ao27, co27, eo27⟩ := Kd.R_slice HO361.out; subst eo27) | ((with_reducible refine gate_callee (f := 83) rfl ?_); refine goesL_ (some 16) rfl rfl Tryd.func83 (by kernel_rfl) rfl #[.pointer (some ⟨g, 0, none⟩), .slice Ao27 y359.length co27] rfl lm_ ?_; (with_reducible refine (spec_l01PickInt.calls g s0_0 t357 t358 _ _ y359 t362 t363 t364 w0 _ ?side1 ?side2 ?side3 ?side4 ?side5 A23.out).mono ?_); (case side1 => exact iS); (case side2 => exact bI); (case side3 => exact cc_ (Kd.R_reads' HO361.out).2.2); (case side4 => exact (Kd.R_reads' HO361.out).2.1); (case side5 => exact far_slice (IsS92.own_ne HI0.out HO361.out (by decide))); rintro e w28 ⟨rfl, hi, hb, hk⟩; refine ⟨_, rfl, ?_⟩; replace BK341 := Aside0.mk (KeepBut.blk hk (bk_ BK341.out) NB341_0.out (by simp)); replace BK346 := Aside0.mk (KeepBut.blk hk (bk_ BK346.out) NB346_0.out (by simp)); replace HO361 := Aside0.mk (Kd.R_mono (Kd.R_keep (IsS92.apart (show IsS92 w0 _ g s0_0 t357 t358 from iS) (rr_ HO361.out) (by decide)) hk (fun _ h => h.2)) (fun _ h => h.1)); replace HK := Aside0.mk (KeepBut.trans kS hk (.inl rfl)); replace HB := Aside0.mk (hb); replace HI0 := Aside0.mk (hi); (try clear hb hk hi); have hnb29 := NB346_341.out; have hnc29 := NB341_346.out; have hnb30 := NB346_0.out; have hnc30 := NB0_346.out; have hcz31_0 : w28.cell? ⟨gb346, 0, none⟩ = some (.int .i64 x347000_3) := (blk_cell BK346.out 0).trans rfl; have hcz31_1 : w28.cell? ⟨gb346, 1, none⟩ = some (.int .i64 t343) := (blk_cell BK346.out 1).trans rfl; have hfz31_0 := blk_frozen BK346.out 0; have hfz31_1 := blk_frozen BK346.out 1; have hnb32 := NB341_0.out; have hnc32 := NB0_341.out; have hcz33_0 : w28.cell? ⟨gb341, 0, none⟩ = some (.int .i64 0) := (blk_cell BK341.out 0).trans rfl; have hcz33_1 : w28.cell? ⟨gb341, 1, none⟩ = some (.int .i64 0) := (blk_cell BK341.out 1).trans rfl; have hfz33_0 := blk_frozen BK341.out 0; have hfz33_1 := blk_frozen BK341.out 1))
    refine bodyPost_ret (results_cell_row rfl _ _ gb341 55 #[.int .i64 x347000_3, .int .i64 t362] (0, 0) _ rfl (by refine bk_ ?_; refine blk_put (cs := #[.int .i64 x347000_3, .int .i64 0]) ?_ 1 _ rfl; refine bk_ ?_; refine blk_put (cs := #[.int .i64 0, .int .i64 0]) ?_ 0 _ rfl; refine bk_ ?_; refine blk_far ?_ NB341_346.out _; exact bk_ BK341.out) Tryd.underlying55 rfl (by kernel_rfl)) rfl ?_
    exact ⟨by first | rfl | (simp [errW_none, errW_some] <;> rfl) | (simp [*, errW_none, errW_some] <;> rfl), by exact iS, by exact bI, by exact kS⟩
   ·replace c22 := Bool.eq_false_iff.mpr c22
    subst c22
    have H1 : (some (x347000_3, t343, t357, t358)) = some (r1, r2, r3, r4) := by rw [if_neg (show ¬ (false = true) by decide)] at H; exact H
    clear H
    have H := H1
    clear H1
    simp only [Option.some.injEq, Prod.mk.injEq] at H
    obtain ⟨rfl, rfl, rfl, rfl⟩ := H
    go_wp2_with (first | ((with_reducible refine gate_callee (f := 81) rfl ?_); refine goesL_ (some 13) rfl rfl Tryd.func81 (by kernel_rfl) rfl #[.pointer (some ⟨g, 0, none⟩), .int .i64 16] rfl lm_ ?_; (with_reducible refine (spec_l01Once.calls g s0_0 x1001_3 x1002_3 16 false t357 t358 w0 _ ?side1 ?side2 A21.out).mono ?_); (case side1 => exact iS); (case side2 => exact bI); rintro e w34 ⟨rfl, hi, hb, hk⟩; refine ⟨_, rfl, ?_⟩; replace BK341 := Aside0.mk (KeepBut.blk hk (bk_ BK341.out) NB341_0.out (by simp)); replace BK346 := Aside0.mk (KeepBut.blk hk (bk_ BK346.out) NB346_0.out (by simp)); replace HK := Aside0.mk (KeepBut.trans kS hk (.inl rfl)); replace HB := Aside0.mk (hb); replace HI0 := Aside0.mk (hi); (try clear hb hk hi); have hnb35 := NB346_341.out; have hnc35 := NB341_346.out; have hnb36 := NB346_0.out; have hnc36 := NB0_346.out; have hcz37_0 : w34.cell? ⟨gb346, 0, none⟩ = some (.int .i64 x347000_3) := (blk_cell BK346.out 0).trans rfl; have hcz37_1 : w34.cell? ⟨gb346, 1, none⟩ = some (.int .i64 t343) := (blk_cell BK346.out 1).trans rfl; have hfz37_0 := blk_frozen BK346.out 0; have hfz37_1 := blk_frozen BK346.out 1; have hnb38 := NB341_0.out; have hnc38 := NB0_341.out; have hcz39_0 : w34.cell? ⟨gb341, 0, none⟩ = some (.int .i64 0) := (blk_cell BK341.out 0).trans rfl; have hcz39_1 : w34.cell? ⟨gb341, 1, none⟩ = some (.int .i64 0) := (blk_cell BK341.out 1).trans rfl; have hfz39_0 := blk_frozen BK341.out 0; have hfz39_1 := blk_frozen BK341.out 1))
    refine bodyPost_ret (results_cell_row rfl _ _ gb341 55 #[.int .i64 x347000_3, .int .i64 t343] (0, 0) _ rfl (by refine bk_ ?_; refine blk_put (cs := #[.int .i64 x347000_3, .int .i64 0]) ?_ 1 _ rfl; refine bk_ ?_; refine blk_put (cs := #[.int .i64 0, .int .i64 0]) ?_ 0 _ rfl; exact bk_ BK341.out) Tryd.underlying55 rfl (by kernel_rfl)) rfl ?_
    exact ⟨by first | rfl | (simp [errW_none, errW_some] <;> rfl) | (simp [*, errW_none, errW_some] <;> rfl), by exact iS, by exact bI, by exact kS⟩

end Go.Proofs.YtpmgfmalpijjbaaDoor.PFnPaths
