/- The walks of FnPaths, part 10: what the print wrote, with some proofs of the session's own. -/
import Derived.Test.YtpmgfmalpijjbaaDoorName
import Derived.Test.YtpmgfmalpijjbaaDoorShort
import Derived.Test.YtpmgfmalpijjbaaDoorQFnPathsx0
import Derived.Test.YtpmgfmalpijjbaaDoorQFnPathsx3
import Derived.Test.YtpmgfmalpijjbaaDoorQFnPathsx9
namespace Go.Proofs.YtpmgfmalpijjbaaDoor.PFnPaths
open Go.RowKit Go.Proofs.YtpmgfmalpijjbaaDoor.Short Go.Proofs.YtpmgfmalpijjbaaDoorW.PrintWords Go.Proofs.YtpmgfmalpijjbaaDoorW.PrintLast Go.Proofs.YtpmgfmalpijjbaaDoorW.PrintMore
attribute [local go_sem] max2_int min2_int max_two min_two max_three min_three max_four min_four   -- for this text's walks alone
set_option linter.unusedVariables false
set_option linter.unusedSimpArgs false

/-! ### spec_l01Below: function 53 -/
def spec_l01Below.f (s0_0 : List Int) (s0_1 : Int) (s0_2 : Int) (a1 : Int) : Option (Int × Int × Int) := if a1 ≤ 0 then (some (0, s0_1, s0_2)) else (if a1 ≤ 256 then ((spec_l01Byte.f s0_0 s0_1 s0_2).bind fun bt253 => (if a1 = 0 then (none) else (some (Int.tmod bt253.1 a1, bt253.2.1, bt253.2.2)))) else ((spec_l01Byte.f s0_0 s0_1 s0_2).bind fun bt256 => ((spec_l01Byte.f s0_0 bt256.2.1 bt256.2.2).bind fun bt259 => ((spec_l01Byte.f s0_0 bt259.2.1 bt259.2.2).bind fun bt262 => ((spec_l01Byte.f s0_0 bt262.2.1 bt262.2.2).bind fun bt265 => (if a1 = 0 then (none) else (some (Int.tmod (wrap64 ((wrap64 ((wrap64 ((wrap64 (bt256.1 * 16777216)) + (wrap64 (bt259.1 * 65536)))) + (wrap64 (bt262.1 * 256)))) + bt265.1)) a1, bt265.2.1, bt265.2.2))))))))
set_option maxHeartbeats 8000000 in
set_option maxRecDepth 100000 in
theorem spec_l01Below.calls (g : Nat) (s0_0 : List Int) (s0_1 : Int) (s0_2 : Int) (a1 : Int) (r1 : Int) (r2 : Int) (r3 : Int) (w0 w : World) (hI : IsS92 w0 w g s0_0 s0_1 s0_2) (hB : Below w0.heap.size w0 w) (h : spec_l01Below.f s0_0 s0_1 s0_2 a1 = some (r1, r2, r3)) :
    Calls Tryd.prog 53 #[.pointer (some ⟨g, 0, none⟩), .int .i64 a1] w fun e w' => e = .returned (.int .i64 r1) ∧ IsS92 w0 w' g s0_0 r2 r3 ∧ Below w0.heap.size w0 w' ∧ KeepBut w w' g none := by
 have HI0 := Aside0.mk hI
 have HK := Aside0.mk (KeepBut.refl w g none)
 have HL := Aside0.mk hB.size
 clear hI
 have HW0 := Aside0.mk hB.size
 have HB := Aside0.mk hB
 clear hB
 have H : (if a1 ≤ 0 then (some (0, s0_1, s0_2)) else (if a1 ≤ 256 then ((spec_l01Byte.f s0_0 s0_1 s0_2).bind fun bt253 => (if a1 = 0 then (none) else (some (Int.tmod bt253.1 a1, bt253.2.1, bt253.2.2)))) else ((spec_l01Byte.f s0_0 s0_1 s0_2).bind fun bt256 => ((spec_l01Byte.f s0_0 bt256.2.1 bt256.2.2).bind fun bt259 => ((spec_l01Byte.f s0_0 bt259.2.1 bt259.2.2).bind fun bt262 => ((spec_l01Byte.f s0_0 bt262.2.1 bt262.2.2).bind fun bt265 => (if a1 = 0 then (none) else (some (Int.tmod (wrap64 ((wrap64 ((wrap64 ((wrap64 (bt256.1 * 16777216)) + (wrap64 (bt259.1 * 65536)))) + (wrap64 (bt262.1 * 256)))) + bt265.1)) a1, bt265.2.1, bt265.2.2))))))))) = some (r1, r2, r3) := h
 clear h
 by_cases c3 : a1 ≤ 0
 ·rw [if_pos c3] at H
  have c3b0 : decide (a1 ≤ 0) = true := decide_eq_true c3
  clear c3
  simp only [Option.some.injEq, Prod.mk.injEq] at H
  obtain ⟨rfl, rfl, rfl⟩ := H
  go_enter Tryd.func53, Tryd.ntmps53
  go_wp2
  go_ret
  exact ⟨by first | rfl | (simp [errW_none, errW_some] <;> rfl) | (simp [*, errW_none, errW_some] <;> rfl), by exact iS, by exact bI, by exact kS⟩
 ·rw [if_neg c3] at H
  have c3b0 : decide (a1 ≤ 0) = false := decide_eq_false c3
  clear c3
  by_cases c4 : a1 ≤ 256
  ·rw [if_pos c4] at H
   have c4b0 : decide (a1 ≤ 256) = true := decide_eq_true c4
   clear c4
   replace H := Option.bind_eq_some_iff.mp H
   obtain ⟨⟨t253, t254, t255⟩, A50, H⟩ := H
   try dsimp only at H
   have A5 := Aside0.mk A50
   clear A50
   by_cases c6 : a1 = 0
   ·rw [if_pos c6] at H
    exact absurd H (by simp)
   ·rw [if_neg c6] at H
    have c6b0 : (a1 == 0) = false := beq_eq_false_iff_ne.mpr c6
    have c6b1 : (a1 != 0) = true := bne_iff_ne.mpr c6
    simp only [Option.some.injEq, Prod.mk.injEq] at H
    obtain ⟨rfl, rfl, rfl⟩ := H
    go_enter Tryd.func53, Tryd.ntmps53
    go_wp2_with (first | ((with_reducible refine gate_callee (f := 71) rfl ?_); refine goesL_ (some 14) rfl rfl Tryd.func71 (by kernel_rfl) rfl #[.pointer (some ⟨g, 0, none⟩)] rfl lm_ ?_; (with_reducible refine (spec_l01Byte.calls g s0_0 s0_1 s0_2 t253 t254 t255 w0 _ ?side1 ?side2 A5.out).mono ?_); (case side1 => exact iS); (case side2 => exact bI); rintro e w7 ⟨rfl, hi, hb, hk⟩; refine ⟨_, rfl, ?_⟩; replace HK := Aside0.mk (KeepBut.trans kS hk (.inl rfl)); replace HB := Aside0.mk (hb); replace HI0 := Aside0.mk (hi); (try clear hb hk hi)))
    go_ret
    exact ⟨by first | rfl | (simp [errW_none, errW_some] <;> rfl) | (simp [*, errW_none, errW_some] <;> rfl), by exact iS, by exact bI, by exact kS⟩
  ·rw [if_neg c4] at H
   have c4b0 : decide (a1 ≤ 256) = false := decide_eq_false c4
   clear c4
   replace H := Option.bind_eq_some_iff.mp H
   obtain ⟨⟨t256, t257, t258⟩, A80, H⟩ := H
   try dsimp only at H
   have A8 := Aside0.mk A80
   clear A80
   replace H := Option.bind_eq_some_iff.mp H
   obtain ⟨⟨t259, t260, t261⟩, A90, H⟩ := H
   try dsimp only at H
   have A9 := Aside0.mk A90
   clear A90
   replace H := Option.bind_eq_some_iff.mp H
   obtain ⟨⟨t262, t263, t264⟩, A100, H⟩ := H
   try dsimp only at H
   have A10 := Aside0.mk A100
   clear A100
   replace H := Option.bind_eq_some_iff.mp H
   obtain ⟨⟨t265, t266, t267⟩, A110, H⟩ := H
   try dsimp only at H
   have A11 := Aside0.mk A110
   clear A110
   by_cases c12 : a1 = 0
   ·rw [if_pos c12] at H
    exact absurd H (by simp)
   ·rw [if_neg c12] at H
    have c12b0 : (a1 == 0) = false := beq_eq_false_iff_ne.mpr c12
    have c12b1 : (a1 != 0) = true := bne_iff_ne.mpr c12
    simp only [Option.some.injEq, Prod.mk.injEq] at H
    obtain ⟨rfl, rfl, rfl⟩ := H
    go_enter Tryd.func53, Tryd.ntmps53
    go_wp2_with (first | ((with_reducible refine gate_callee (f := 71) rfl ?_); refine goesL_ (some 18) rfl rfl Tryd.func71 (by kernel_rfl) rfl #[.pointer (some ⟨g, 0, none⟩)] rfl lm_ ?_; (with_reducible refine (spec_l01Byte.calls g s0_0 s0_1 s0_2 t256 t257 t258 w0 _ ?side1 ?side2 A8.out).mono ?_); (case side1 => exact iS); (case side2 => exact bI); rintro e w13 ⟨rfl, hi, hb, hk⟩; refine ⟨_, rfl, ?_⟩; replace HK := Aside0.mk (KeepBut.trans kS hk (.inl rfl)); replace HB := Aside0.mk (hb); replace HI0 := Aside0.mk (hi); (try clear hb hk hi)) | ((with_reducible refine gate_callee (f := 71) rfl ?_); refine goesL_ (some 20) rfl rfl Tryd.func71 (by kernel_rfl) rfl #[.pointer (some ⟨g, 0, none⟩)] rfl lm_ ?_; (with_reducible refine (spec_l01Byte.calls g s0_0 t257 t258 t259 t260 t261 w0 _ ?side1 ?side2 A9.out).mono ?_); (case side1 => exact iS); (case side2 => exact bI); rintro e w14 ⟨rfl, hi, hb, hk⟩; refine ⟨_, rfl, ?_⟩; replace HK := Aside0.mk (KeepBut.trans kS hk (.inl rfl)); replace HB := Aside0.mk (hb); replace HI0 := Aside0.mk (hi); (try clear hb hk hi)) | ((with_reducible refine gate_callee (f := 71) rfl ?_); refine goesL_ (some 22) rfl rfl Tryd.func71 (by kernel_rfl) rfl #[.pointer (some ⟨g, 0, none⟩)] rfl lm_ ?_; (with_reducible refine (spec_l01Byte.calls g s0_0 t260 t261 t262 t263 t264 w0 _ ?side1 ?side2 A10.out).mono ?_); (case side1 => exact iS); (case side2 => exact bI); rintro e w15 ⟨rfl, hi, hb, hk⟩; refine ⟨_, rfl, ?_⟩; replace HK := Aside0.mk (KeepBut.trans kS hk (.inl rfl)); replace HB := Aside0.mk (hb); replace HI0 := Aside0.mk (hi); (try clear hb hk hi)) | ((with_reducible refine gate_callee (f := 71) rfl ?_); refine goesL_ (some 24) rfl rfl Tryd.func71 (by kernel_rfl) rfl #[.pointer (some ⟨g, 0, none⟩)] rfl lm_ ?_; (with_reducible refine (spec_l01Byte.calls g s0_0 t263 t264 t265 t266 t267 w0 _ ?side1 ?side2 A11.out).mono ?_); (case side1 => exact iS); (case side2 => exact bI); rintro e w16 ⟨rfl, hi, hb, hk⟩; refine ⟨_, rfl, ?_⟩; replace HK := Aside0.mk (KeepBut.trans kS hk (.inl rfl)); replace HB := Aside0.mk (hb); replace HI0 := Aside0.mk (hi); (try clear hb hk hi)))
    go_ret
    exact ⟨by first | rfl | (simp [errW_none, errW_some] <;> rfl) | (simp [*, errW_none, errW_some] <;> rfl), by exact iS, by exact bI, by exact kS⟩

/-! ### spec_l01Once: function 81 -/
def spec_l01Once.f (s0_0 : List Int) (s0_1 : Int) (s0_2 : Int) (a1 : Int) : Option (Bool × Int × Int) := (spec_l01Below.f s0_0 s0_1 s0_2 a1).bind fun bt268 => (some ((bt268.1 == 0), bt268.2.1, bt268.2.2))
set_option maxHeartbeats 8000000 in
set_option maxRecDepth 100000 in
theorem spec_l01Once.calls (g : Nat) (s0_0 : List Int) (s0_1 : Int) (s0_2 : Int) (a1 : Int) (r1 : Bool) (r2 : Int) (r3 : Int) (w0 w : World) (hI : IsS92 w0 w g s0_0 s0_1 s0_2) (hB : Below w0.heap.size w0 w) (h : spec_l01Once.f s0_0 s0_1 s0_2 a1 = some (r1, r2, r3)) :
    Calls Tryd.prog 81 #[.pointer (some ⟨g, 0, none⟩), .int .i64 a1] w fun e w' => e = .returned (.bool r1) ∧ IsS92 w0 w' g s0_0 r2 r3 ∧ Below w0.heap.size w0 w' ∧ KeepBut w w' g none := by
 have HI0 := Aside0.mk hI
 have HK := Aside0.mk (KeepBut.refl w g none)
 have HL := Aside0.mk hB.size
 clear hI
 have HW0 := Aside0.mk hB.size
 have HB := Aside0.mk hB
 clear hB
 have H : ((spec_l01Below.f s0_0 s0_1 s0_2 a1).bind fun bt268 => (some ((bt268.1 == 0), bt268.2.1, bt268.2.2))) = some (r1, r2, r3) := h
 clear h
 replace H := Option.bind_eq_some_iff.mp H
 obtain ⟨⟨t268, t269, t270⟩, A30, H⟩ := H
 try dsimp only at H
 have A3 := Aside0.mk A30
 clear A30
 simp only [Option.some.injEq, Prod.mk.injEq] at H
 obtain ⟨rfl, rfl, rfl⟩ := H
 go_enter Tryd.func81, Tryd.ntmps81
 go_wp2_with (first | ((with_reducible refine gate_callee (f := 53) rfl ?_); refine goesL_ (some 7) rfl rfl Tryd.func53 (by kernel_rfl) rfl #[.pointer (some ⟨g, 0, none⟩), .int .i64 a1] rfl lm_ ?_; (with_reducible refine (spec_l01Below.calls g s0_0 s0_1 s0_2 a1 t268 t269 t270 w0 _ ?side1 ?side2 A3.out).mono ?_); (case side1 => exact iS); (case side2 => exact bI); rintro e w4 ⟨rfl, hi, hb, hk⟩; refine ⟨_, rfl, ?_⟩; replace HK := Aside0.mk (KeepBut.trans kS hk (.inl rfl)); replace HB := Aside0.mk (hb); replace HI0 := Aside0.mk (hi); (try clear hb hk hi)))
 go_ret
 exact ⟨by first | rfl | (simp [errW_none, errW_some] <;> rfl) | (simp [*, errW_none, errW_some] <;> rfl), by exact iS, by exact bI, by exact kS⟩

/-! ### spec_Empty: function 97 -/
def spec_Empty.f (a0_0 : Int) (a0_1 : Int) (a0_2 : Int) (a0_3 : Int) : Option (Bool) := if a0_0 ≥ a0_2 then (some true) else (some (decide (a0_1 ≥ a0_3)))
set_option maxHeartbeats 8000000 in
set_option maxRecDepth 100000 in
theorem spec_Empty.calls (a0_0 : Int) (a0_1 : Int) (a0_2 : Int) (a0_3 : Int) (r : Bool) (w : World) (h : spec_Empty.f a0_0 a0_1 a0_2 a0_3 = some r) :
    Calls Tryd.prog 97 #[.agg #[.int .i64 a0_0, .int .i64 a0_1, .int .i64 a0_2, .int .i64 a0_3]] w fun e w' => e = .returned (.bool r) ∧ Below w.heap.size w w' := by
 have hu101 := Tryd.underlying101
 have HB := Aside0.mk (Below.refl w.heap.size w)
 have H : (if a0_0 ≥ a0_2 then (some true) else (some (decide (a0_1 ≥ a0_3)))) = some r := h
 clear h
 by_cases c2 : a0_0 ≥ a0_2
 ·rw [if_pos c2] at H
  have c2b0 : decide (a0_2 ≤ a0_0) = true := decide_eq_true c2
  clear c2
  obtain rfl := Option.some.inj H
  go_enter Tryd.func97, Tryd.ntmps97
  go_wp2_with (first | ((with_reducible refine gate_dst (N := 1) rfl ?_); refine box_event ?hg (N := 1) ?hd (cs := #[.int .i64 a0_0, .int .i64 a0_1, .int .i64 a0_2, .int .i64 a0_3]) (t := 101) ?hr ?_; (case hd => rfl); (case hg => rfl); (case hr => first | (go_simp; done) | (go_simp; rfl)); intro gb271 hg w3 hbox hb; have BK271 := Aside0.mk (hbox); have GW271 := Aside0.mk ((by rw [hg]; exact (below_size bS) : w.heap.size ≤ gb271)); have GE271 := Aside0.mk ((by rw [hg]; exact (below_size bS) : w.heap.size ≤ gb271)); replace HB := Aside0.mk (below_step bS hb); clear hb hbox hg; have hcz4_0 : w3.cell? ⟨gb271, 0, none⟩ = some (.int .i64 a0_0) := (blk_cell BK271.out 0).trans rfl; have hcz4_1 : w3.cell? ⟨gb271, 1, none⟩ = some (.int .i64 a0_1) := (blk_cell BK271.out 1).trans rfl; have hcz4_2 : w3.cell? ⟨gb271, 2, none⟩ = some (.int .i64 a0_2) := (blk_cell BK271.out 2).trans rfl; have hcz4_3 : w3.cell? ⟨gb271, 3, none⟩ = some (.int .i64 a0_3) := (blk_cell BK271.out 3).trans rfl; have hfz4_0 := blk_frozen BK271.out 0; have hfz4_1 := blk_frozen BK271.out 1; have hfz4_2 := blk_frozen BK271.out 2; have hfz4_3 := blk_frozen BK271.out 3))
  go_ret
  exact ⟨by first | rfl | (simp [errW_none, errW_some] <;> rfl) | (simp [*, errW_none, errW_some] <;> rfl), by exact bS⟩
 ·rw [if_neg c2] at H
  have c2b0 : decide (a0_2 ≤ a0_0) = false := decide_eq_false c2
  clear c2
  obtain rfl := Option.some.inj H
  go_enter Tryd.func97, Tryd.ntmps97
  go_wp2_with (first | ((with_reducible refine gate_dst (N := 1) rfl ?_); refine box_event ?hg (N := 1) ?hd (cs := #[.int .i64 a0_0, .int .i64 a0_1, .int .i64 a0_2, .int .i64 a0_3]) (t := 101) ?hr ?_; (case hd => rfl); (case hg => rfl); (case hr => first | (go_simp; done) | (go_simp; rfl)); intro gb271 hg w5 hbox hb; have BK271 := Aside0.mk (hbox); have GW271 := Aside0.mk ((by rw [hg]; exact (below_size bS) : w.heap.size ≤ gb271)); have GE271 := Aside0.mk ((by rw [hg]; exact (below_size bS) : w.heap.size ≤ gb271)); replace HB := Aside0.mk (below_step bS hb); clear hb hbox hg; have hcz6_0 : w5.cell? ⟨gb271, 0, none⟩ = some (.int .i64 a0_0) := (blk_cell BK271.out 0).trans rfl; have hcz6_1 : w5.cell? ⟨gb271, 1, none⟩ = some (.int .i64 a0_1) := (blk_cell BK271.out 1).trans rfl; have hcz6_2 : w5.cell? ⟨gb271, 2, none⟩ = some (.int .i64 a0_2) := (blk_cell BK271.out 2).trans rfl; have hcz6_3 : w5.cell? ⟨gb271, 3, none⟩ = some (.int .i64 a0_3) := (blk_cell BK271.out 3).trans rfl; have hfz6_0 := blk_frozen BK271.out 0; have hfz6_1 := blk_frozen BK271.out 1; have hfz6_2 := blk_frozen BK271.out 2; have hfz6_3 := blk_frozen BK271.out 3))
  go_ret
  exact ⟨by first | rfl | (simp [errW_none, errW_some] <;> rfl) | (simp [*, errW_none, errW_some] <;> rfl), by exact bS⟩

/-! ### spec_RectPath: function 82 -/
def spec_RectPath.f (a0_0 : Int) (a0_1 : Int) (a0_2 : Int) (a0_3 : Int) : Option (List Int × (List (S55))) := (some (([(⟨a0_0, a0_1⟩ : S55), (⟨a0_2, a0_1⟩ : S55), (⟨a0_2, a0_3⟩ : S55), (⟨a0_0, a0_3⟩ : S55)] : List (S55)) : List (S55))).bind fun y274 => ((spec_Empty.f a0_0 a0_1 a0_2 a0_3).bind fun t277 => (if t277 = true then (some (([] : List Int), ([] : List (S55)))) else (if 0 < (y274.length : Int) then ((spec_PointOk.f ((rd_T55 y274 0).f0) ((rd_T55 y274 0).f1)).bind fun t279 => (if t279 = true then (if 2 < (y274.length : Int) then ((spec_PointOk.f ((rd_T55 y274 2).f0) ((rd_T55 y274 2).f1)).bind fun t281 => (if t281 = true then (some ((([1, 2, 2, 2, 5] : List Int)), y274)) else (some (([] : List Int), ([] : List (S55)))))) else (none)) else (some (([] : List Int), ([] : List (S55)))))) else (none))))
set_option maxHeartbeats 8000000 in
set_option maxRecDepth 100000 in
theorem spec_RectPath.calls (a0_0 : Int) (a0_1 : Int) (a0_2 : Int) (a0_3 : Int) (r1 : List Int) (r2 : List (S55)) (w : World) (h : spec_RectPath.f a0_0 a0_1 a0_2 a0_3 = some (r1, r2)) :
    Calls Tryd.prog 82 #[.agg #[.int .i64 a0_0, .int .i64 a0_1, .int .i64 a0_2, .int .i64 a0_3]] w fun e w' => ∃ v0_ v1_ : Value, e = .returned (.agg #[v0_, v1_]) ∧ Kd.R (Kd.int .i64) 3 w' w.heap.size (fun _ => True) v0_ r1 ∧ Kd.R k55 55 w' w.heap.size (fun _ => True) v1_ r2 ∧ Below w.heap.size w w' := by
 have hu101 := Tryd.underlying101
 have hu37 := Tryd.underlying37
 have hu55 := Tryd.underlying55
 have HB := Aside0.mk (Below.refl w.heap.size w)
 have H : ((some (([(⟨a0_0, a0_1⟩ : S55), (⟨a0_2, a0_1⟩ : S55), (⟨a0_2, a0_3⟩ : S55), (⟨a0_0, a0_3⟩ : S55)] : List (S55)) : List (S55))).bind fun y274 => ((spec_Empty.f a0_0 a0_1 a0_2 a0_3).bind fun t277 => (if t277 = true then (some (([] : List Int), ([] : List (S55)))) else (if 0 < (y274.length : Int) then ((spec_PointOk.f ((rd_T55 y274 0).f0) ((rd_T55 y274 0).f1)).bind fun t279 => (if t279 = true then (if 2 < (y274.length : Int) then ((spec_PointOk.f ((rd_T55 y274 2).f0) ((rd_T55 y274 2).f1)).bind fun t281 => (if t281 = true then (some ((([1, 2, 2, 2, 5] : List Int)), y274)) else (some (([] : List Int), ([] : List (S55)))))) else (none)) else (some (([] : List Int), ([] : List (S55)))))) else (none))))) = some (r1, r2) := h
 clear h
 obtain ⟨y274, hy274⟩ : ∃ y_ : List (S55), y_ = (([(⟨a0_0, a0_1⟩ : S55), (⟨a0_2, a0_1⟩ : S55), (⟨a0_2, a0_3⟩ : S55), (⟨a0_0, a0_3⟩ : S55)] : List (S55))) := ⟨_, rfl⟩
 replace H : ((spec_Empty.f a0_0 a0_1 a0_2 a0_3).bind fun t277 => (if t277 = true then (some (([] : List Int), ([] : List (S55)))) else (if 0 < (y274.length : Int) then ((spec_PointOk.f ((rd_T55 y274 0).f0) ((rd_T55 y274 0).f1)).bind fun t279 => (if t279 = true then (if 2 < (y274.length : Int) then ((spec_PointOk.f ((rd_T55 y274 2).f0) ((rd_T55 y274 2).f1)).bind fun t281 => (if t281 = true then (some ((([1, 2, 2, 2, 5] : List Int)), y274)) else (some (([] : List Int), ([] : List (S55)))))) else (none)) else (some (([] : List Int), ([] : List (S55)))))) else (none)))) = some (r1, r2) := by first | (rw [hy274]; with_reducible exact H) | (have H2_ := (Option.bind_some _ _).symm.trans H; rw [hy274]; with_reducible exact H2_) | (have H2_ := (Option.bind_some _ _).symm.trans H; with_reducible exact H2_) | with_reducible exact H | (rw [hy274]; exact H) | exact H
 have Ny274 := Aside0.mk hy274
 clear hy274
 replace H := Option.bind_eq_some_iff.mp H
 obtain ⟨t277, A20, H⟩ := H
 try dsimp only at H
 have A2 := Aside0.mk A20
 clear A20
 by_cases c3 : t277 = true
 ·subst c3
  have H1 : (some (([] : List Int), ([] : List (S55)))) = some (r1, r2) := by rw [if_pos rfl] at H; exact H
  clear H
  have H := H1
  clear H1
  simp only [Option.some.injEq, Prod.mk.injEq] at H
  obtain ⟨rfl, rfl⟩ := H
  go_enter Tryd.func82, Tryd.ntmps82
  go_wp2_with (first | ((with_reducible refine gate_dst (N := 1) rfl ?_); refine box_event ?hg (N := 1) ?hd (cs := #[.int .i64 a0_0, .int .i64 a0_1, .int .i64 a0_2, .int .i64 a0_3]) (t := 101) ?hr ?_; (case hd => rfl); (case hg => rfl); (case hr => first | (go_simp; done) | (go_simp; rfl)); intro gb272 hg w4 hbox hb; have BK272 := Aside0.mk (hbox); have GW272 := Aside0.mk ((by rw [hg]; exact (below_size bS) : w.heap.size ≤ gb272)); have GE272 := Aside0.mk ((by rw [hg]; exact (below_size bS) : w.heap.size ≤ gb272)); replace HB := Aside0.mk (below_step bS hb); clear hb hbox hg) | ((with_reducible refine gate_dst (N := 2) rfl ?_); refine box_event ?hg (N := 2) ?hd (cs := #[.slice none 0 0, .slice none 0 0]) (t := 37) ?hr ?_; (case hd => rfl); (case hg => rfl); (case hr => first | (go_simp; done) | (go_simp; rfl)); intro gb273 hg w5 hbox hb; have BK273 := Aside0.mk (hbox); have GW273 := Aside0.mk ((by rw [hg]; exact (below_size bS) : w.heap.size ≤ gb273)); have GE273 := Aside0.mk ((by rw [hg]; exact (below_size bS) : w.heap.size ≤ gb273)); replace HB := Aside0.mk (below_step bS hb); have NB272_273 := Aside0.mk ((by rw [hg]; exact Nat.ne_of_lt (blk_lt (bk_ BK272.out)) : gb272 ≠ gb273)); have NB273_272 := Aside0.mk ((by rw [hg]; exact Nat.ne_of_gt (blk_lt (bk_ BK272.out)) : gb273 ≠ gb272)); replace BK272 := Aside0.mk (blk_below (bk_ BK272.out) hb); clear hb hbox hg; have hnb6 := NB272_273.out; have hnc6 := NB273_272.out; have hcz7_0 : w5.cell? ⟨gb272, 0, none⟩ = some (.int .i64 a0_0) := (blk_cell BK272.out 0).trans rfl; have hcz7_1 : w5.cell? ⟨gb272, 1, none⟩ = some (.int .i64 a0_1) := (blk_cell BK272.out 1).trans rfl; have hcz7_2 : w5.cell? ⟨gb272, 2, none⟩ = some (.int .i64 a0_2) := (blk_cell BK272.out 2).trans rfl; have hcz7_3 : w5.cell? ⟨gb272, 3, none⟩ = some (.int .i64 a0_3) := (blk_cell BK272.out 3).trans rfl; have hfz7_0 := blk_frozen BK272.out 0; have hfz7_1 := blk_frozen BK272.out 1; have hfz7_2 := blk_frozen BK272.out 2; have hfz7_3 := blk_frozen BK272.out 3) | ((with_reducible refine gate_dst (N := 24) rfl ?_); refine Kd.R_lit k55 _ 55 ?hg (N := 24) ?hd (xs := ([(⟨a0_0, a0_1⟩ : S55), (⟨a0_2, a0_1⟩ : S55), (⟨a0_2, a0_3⟩ : S55), (⟨a0_0, a0_3⟩ : S55)] : List (S55))) (inner := [.int .i64 a0_0, .int .i64 a0_1, .int .i64 a0_2, .int .i64 a0_1, .int .i64 a0_2, .int .i64 a0_3, .int .i64 a0_0, .int .i64 a0_3]) (ok := fun _ => True) (okp := fun _ => True) ?hr ?hp (fun _ hk => hk) trivial (Below.refl _ _) (Nat.le_refl _) (by simp) ?_; (case hd => rfl); (case hg => rfl); (case hr => first | (go_simp; done) | (go_simp; rfl)); (case hp => exact (Reps.c2 (show Kd.M k55 _ _ _ (⟨a0_0, a0_1⟩ : S55) [.int .i64 a0_0, .int .i64 a0_1] from (k55_mkM _ _ _ (⟨a0_0, a0_1⟩ : S55) )) (Reps.c2 (show Kd.M k55 _ _ _ (⟨a0_2, a0_1⟩ : S55) [.int .i64 a0_2, .int .i64 a0_1] from (k55_mkM _ _ _ (⟨a0_2, a0_1⟩ : S55) )) (Reps.c2 (show Kd.M k55 _ _ _ (⟨a0_2, a0_3⟩ : S55) [.int .i64 a0_2, .int .i64 a0_3] from (k55_mkM _ _ _ (⟨a0_2, a0_3⟩ : S55) )) (Reps.c2 (show Kd.M k55 _ _ _ (⟨a0_0, a0_3⟩ : S55) [.int .i64 a0_0, .int .i64 a0_3] from (k55_mkM _ _ _ (⟨a0_0, a0_3⟩ : S55) )) (Reps.none _ _)))))); intro v275 w8 ho9 hb hg_ hnew_; clear hg_ hnew_; (first | rw [← Ny274.out] at ho9 | (simp only [Int.reduceToNat] at ho9; rw [← Ny274.out] at ho9)); have HO276 := Aside0.mk (Kd.R_lower ho9 (below_size bS)); replace BK272 := Aside0.mk (blk_below (bk_ BK272.out) hb); replace BK273 := Aside0.mk (blk_below (bk_ BK273.out) hb); replace HB := Aside0.mk (below_step bS hb); clear hb ho9; have hcz10_0 : w8.cell? ⟨gb272, 0, none⟩ = some (.int .i64 a0_0) := (blk_cell BK272.out 0).trans rfl; have hcz10_1 : w8.cell? ⟨gb272, 1, none⟩ = some (.int .i64 a0_1) := (blk_cell BK272.out 1).trans rfl; have hcz10_2 : w8.cell? ⟨gb272, 2, none⟩ = some (.int .i64 a0_2) := (blk_cell BK272.out 2).trans rfl; have hcz10_3 : w8.cell? ⟨gb272, 3, none⟩ = some (.int .i64 a0_3) := (blk_cell BK272.out 3).trans rfl; have hfz10_0 := blk_frozen BK272.out 0; have hfz10_1 := blk_frozen BK272.out 1; have hfz10_2 := blk_frozen BK272.out 2; have hfz10_3 := blk_frozen BK272.out 3) | ((with_reducible refine gate_callee (f := 97) rfl ?_); refine goesL_ (some 26) rfl rfl Tryd.func97 (by kernel_rfl) rfl #[.agg #[.int .i64 a0_0, .int .i64 a0_1, .int .i64 a0_2, .int .i64 a0_3]] rfl lm_ ?_; (with_reducible refine (spec_Empty.calls a0_0 a0_1 a0_2 a0_3 true _ A2.out).mono ?_); rintro e w11 ⟨rfl, hb⟩; refine ⟨_, rfl, ?_⟩; replace HO276 := Aside0.mk (Kd.R_below (rr_ HO276.out) hb); replace BK272 := Aside0.mk (blk_below (bk_ BK272.out) hb); replace BK273 := Aside0.mk (blk_below (bk_ BK273.out) hb); replace HB := Aside0.mk (below_step bS hb); (try clear hb); have hcz12_0 : w11.cell? ⟨gb273, 0, none⟩ = some (.slice none 0 0) := (blk_cell BK273.out 0).trans rfl; have hcz12_1 : w11.cell? ⟨gb273, 1, none⟩ = some (.slice none 0 0) := (blk_cell BK273.out 1).trans rfl; have hfz12_0 := blk_frozen BK273.out 0; have hfz12_1 := blk_frozen BK273.out 1))
  refine bodyPost_ret (results_cell_row rfl _ _ gb273 37 #[.slice none 0 0, .slice none 0 0] (0, 0) _ rfl (by refine bk_ ?_; refine blk_put (cs := #[.slice none 0 0, .slice none 0 0]) ?_ 1 _ rfl; refine bk_ ?_; refine blk_put (cs := #[.slice none 0 0, .slice none 0 0]) ?_ 0 _ rfl; exact bk_ BK273.out) Tryd.underlying37 rfl (by kernel_rfl)) rfl ?_
  exact ⟨_, _, by first | rfl | (simp [errW_none, errW_some] <;> rfl) | (simp [*, errW_none, errW_some] <;> rfl), by first | exact Kd.R_nil _ _ _ _ _ | exact Kd.N_nil _ _ _ _ _ | exact Kd.V_nil _ _ _ _ _ | exact Kd.Q_nil _ _ _ _ _ | exact Kd.S_nil _ _ _ _ _, by first | exact Kd.R_nil _ _ _ _ _ | exact Kd.N_nil _ _ _ _ _ | exact Kd.V_nil _ _ _ _ _ | exact Kd.Q_nil _ _ _ _ _ | exact Kd.S_nil _ _ _ _ _, by exact bS⟩
 ·replace c3 := Bool.eq_false_iff.mpr c3
  subst c3
  have H1 : (if 0 < (y274.length : Int) then ((spec_PointOk.f ((rd_T55 y274 0).f0) ((rd_T55 y274 0).f1)).bind fun t279 => (if t279 = true then (if 2 < (y274.length : Int) then ((spec_PointOk.f ((rd_T55 y274 2).f0) ((rd_T55 y274 2).f1)).bind fun t281 => (if t281 = true then (some ((([1, 2, 2, 2, 5] : List Int)), y274)) else (some (([] : List Int), ([] : List (S55)))))) else (none)) else (some (([] : List Int), ([] : List (S55)))))) else (none)) = some (r1, r2) := by rw [if_neg (show ¬ (false = true) by decide)] at H; exact H
  clear H
  have H := H1
  clear H1
  by_cases c13 : 0 < (y274.length : Int)
  ·rw [if_pos c13] at H
   have c13b0 : decide (0 < (y274.length : Int)) = true := decide_eq_true c13
   have c13b1 : decide (0 < y274.length) = true := decide_eq_true (by omega)
   clear c13
   replace H := Option.bind_eq_some_iff.mp H
   obtain ⟨t279, A140, H⟩ := H
   try dsimp only at H
   have A14 := Aside0.mk A140
   clear A140
   by_cases c15 : t279 = true
   ·subst c15
    have H1 : (if 2 < (y274.length : Int) then ((spec_PointOk.f ((rd_T55 y274 2).f0) ((rd_T55 y274 2).f1)).bind fun t281 => (if t281 = true then (some ((([1, 2, 2, 2, 5] : List Int)), y274)) else (some (([] : List Int), ([] : List (S55)))))) else (none)) = some (r1, r2) := by rw [if_pos rfl] at H; exact H
    clear H
    have H := H1
    clear H1
    by_cases c16 : 2 < (y274.length : Int)
    ·rw [if_pos c16] at H
     have c16b0 : decide (2 < (y274.length : Int)) = true := decide_eq_true c16
     have c16b1 : decide (2 < y274.length) = true := decide_eq_true (by omega)
     clear c16
     replace H := Option.bind_eq_some_iff.mp H
     obtain ⟨t281, A170, H⟩ := H
     try dsimp only at H
     have A17 := Aside0.mk A170
     clear A170
     by_cases c18 : t281 = true
     ·subst c18
      have H1 : (some ((([1, 2, 2, 2, 5] : List Int)), y274)) = some (r1, r2) := by rw [if_pos rfl] at H; exact H
      clear H
      have H := H1
      clear H1
      obtain ⟨y282, hy282⟩ : ∃ y_ : List Int, y_ = (([1, 2, 2, 2, 5] : List Int)) := ⟨_, rfl⟩
      replace H : (some (y282, y274)) = some (r1, r2) := by first | (rw [hy282]; with_reducible exact H) | (have H2_ := (Option.bind_some _ _).symm.trans H; rw [hy282]; with_reducible exact H2_) | (have H2_ := (Option.bind_some _ _).symm.trans H; with_reducible exact H2_) | with_reducible exact H | (rw [hy282]; exact H) | exact H
      have Ny282 := Aside0.mk hy282
      clear hy282
      simp only [Option.some.injEq, Prod.mk.injEq] at H
      obtain ⟨rfl, rfl⟩ := H
      go_enter Tryd.func82, Tryd.ntmps82
      go_wp2_with (first | ((with_reducible refine gate_dst (N := 1) rfl ?_); refine box_event ?hg (N := 1) ?hd (cs := #[.int .i64 a0_0, .int .i64 a0_1, .int .i64 a0_2, .int .i64 a0_3]) (t := 101) ?hr ?_; (case hd => rfl); (case hg => rfl); (case hr => first | (go_simp; done) | (go_simp; rfl)); intro gb272 hg w19 hbox hb; have BK272 := Aside0.mk (hbox); have GW272 := Aside0.mk ((by rw [hg]; exact (below_size bS) : w.heap.size ≤ gb272)); have GE272 := Aside0.mk ((by rw [hg]; exact (below_size bS) : w.heap.size ≤ gb272)); replace HB := Aside0.mk (below_step bS hb); clear hb hbox hg) | ((with_reducible refine gate_dst (N := 2) rfl ?_); refine box_event ?hg (N := 2) ?hd (cs := #[.slice none 0 0, .slice none 0 0]) (t := 37) ?hr ?_; (case hd => rfl); (case hg => rfl); (case hr => first | (go_simp; done) | (go_simp; rfl)); intro gb273 hg w20 hbox hb; have BK273 := Aside0.mk (hbox); have GW273 := Aside0.mk ((by rw [hg]; exact (below_size bS) : w.heap.size ≤ gb273)); have GE273 := Aside0.mk ((by rw [hg]; exact (below_size bS) : w.heap.size ≤ gb273)); replace HB := Aside0.mk (below_step bS hb); have NB272_273 := Aside0.mk ((by rw [hg]; exact Nat.ne_of_lt (blk_lt (bk_ BK272.out)) : gb272 ≠ gb273)); have NB273_272 := Aside0.mk ((by rw [hg]; exact Nat.ne_of_gt (blk_lt (bk_ BK272.out)) : gb273 ≠ gb272)); replace BK272 := Aside0.mk (blk_below (bk_ BK272.out) hb); clear hb hbox hg; have hnb21 := NB272_273.out; have hnc21 := NB273_272.out; have hcz22_0 : w20.cell? ⟨gb272, 0, none⟩ = some (.int .i64 a0_0) := (blk_cell BK272.out 0).trans rfl; have hcz22_1 : w20.cell? ⟨gb272, 1, none⟩ = some (.int .i64 a0_1) := (blk_cell BK272.out 1).trans rfl; have hcz22_2 : w20.cell? ⟨gb272, 2, none⟩ = some (.int .i64 a0_2) := (blk_cell BK272.out 2).trans rfl; have hcz22_3 : w20.cell? ⟨gb272, 3, none⟩ = some (.int .i64 a0_3) := (blk_cell BK272.out 3).trans rfl; have hfz22_0 := blk_frozen BK272.out 0; have hfz22_1 := blk_frozen BK272.out 1; have hfz22_2 := blk_frozen BK272.out 2; have hfz22_3 := blk_frozen BK272.out 3) | ((with_reducible refine gate_dst (N := 24) rfl ?_); refine Kd.R_lit k55 _ 55 ?hg (N := 24) ?hd (xs := ([(⟨a0_0, a0_1⟩ : S55), (⟨a0_2, a0_1⟩ : S55), (⟨a0_2, a0_3⟩ : S55), (⟨a0_0, a0_3⟩ : S55)] : List (S55))) (inner := [.int .i64 a0_0, .int .i64 a0_1, .int .i64 a0_2, .int .i64 a0_1, .int .i64 a0_2, .int .i64 a0_3, .int .i64 a0_0, .int .i64 a0_3]) (ok := fun _ => True) (okp := fun _ => True) ?hr ?hp (fun _ hk => hk) trivial (Below.refl _ _) (Nat.le_refl _) (by simp) ?_; (case hd => rfl); (case hg => rfl); (case hr => first | (go_simp; done) | (go_simp; rfl)); (case hp => exact (Reps.c2 (show Kd.M k55 _ _ _ (⟨a0_0, a0_1⟩ : S55) [.int .i64 a0_0, .int .i64 a0_1] from (k55_mkM _ _ _ (⟨a0_0, a0_1⟩ : S55) )) (Reps.c2 (show Kd.M k55 _ _ _ (⟨a0_2, a0_1⟩ : S55) [.int .i64 a0_2, .int .i64 a0_1] from (k55_mkM _ _ _ (⟨a0_2, a0_1⟩ : S55) )) (Reps.c2 (show Kd.M k55 _ _ _ (⟨a0_2, a0_3⟩ : S55) [.int .i64 a0_2, .int .i64 a0_3] from (k55_mkM _ _ _ (⟨a0_2, a0_3⟩ : S55) )) (Reps.c2 (show Kd.M k55 _ _ _ (⟨a0_0, a0_3⟩ : S55) [.int .i64 a0_0, .int .i64 a0_3] from (k55_mkM _ _ _ (⟨a0_0, a0_3⟩ : S55) )) (Reps.none _ _)))))); intro v275 w23 ho24 hb hg_ hnew_; clear hg_ hnew_; (first | rw [← Ny274.out] at ho24 | (simp only [Int.reduceToNat] at ho24; rw [← Ny274.out] at ho24)); have HO276 := Aside0.mk (Kd.R_lower ho24 (below_size bS)); replace BK272 := Aside0.mk (blk_below (bk_ BK272.out) hb); replace BK273 := Aside0.mk (blk_below (bk_ BK273.out) hb); replace HB := Aside0.mk (below_step bS hb); clear hb ho24; have hcz25_0 : w23.cell? ⟨gb272, 0, none⟩ = some (.int .i64 a0_0) := (blk_cell BK272.out 0).trans rfl; have hcz25_1 : w23.cell? ⟨gb272, 1, none⟩ = some (.int .i64 a0_1) := (blk_cell BK272.out 1).trans rfl; have hcz25_2 : w23.cell? ⟨gb272, 2, none⟩ = some (.int .i64 a0_2) := (blk_cell BK272.out 2).trans rfl; have hcz25_3 : w23.cell? ⟨gb272, 3, none⟩ = some (.int .i64 a0_3) := (blk_cell BK272.out 3).trans rfl; have hfz25_0 := blk_frozen BK272.out 0; have hfz25_1 := blk_frozen BK272.out 1; have hfz25_2 := blk_frozen BK272.out 2; have hfz25_3 := blk_frozen BK272.out 3) | ((with_reducible refine gate_callee (f := 97) rfl ?_); refine goesL_ (some 26) rfl rfl Tryd.func97 (by kernel_rfl) rfl #[.agg #[.int .i64 a0_0, .int .i64 a0_1, .int .i64 a0_2, .int .i64 a0_3]] rfl lm_ ?_; (with_reducible refine (spec_Empty.calls a0_0 a0_1 a0_2 a0_3 false _ A2.out).mono ?_); rintro e w26 ⟨rfl, hb⟩; refine ⟨_, rfl, ?_⟩; replace HO276 := Aside0.mk (Kd.R_below (rr_ HO276.out) hb); replace BK272 := Aside0.mk (blk_below (bk_ BK272.out) hb); replace BK273 := Aside0.mk (blk_below (bk_ BK273.out) hb); replace HB := Aside0.mk (below_step bS hb); (try clear hb); obtain ⟨Ao27, co27, eo27⟩ := Kd.R_slice HO276.out; subst eo27; have p278 : 0 ≤ (0 : Int) := (by omega); have q278 : 0 < (y274.length : Int) := of_decide_eq_true as_; obtain ⟨ad278, e278, hx278_0, hx278_1⟩ := at_T55 (Kd.R_reads' HO276.out).2.2 0 p278 q278; cases e278; have qi278 : (0 < y274.length) = True := eq_true (by omega); (try rw [show ((0 : Int)).toNat = 0 from rfl] at hx278_0); (try rw [show 0 * 2 = 0 from rfl] at hx278_0); (try rw [Addr.add_zero'] at hx278_0); (try rw [show ((0 : Int)).toNat = 0 from rfl] at hx278_1); (try rw [show 0 * 2 = 0 from rfl] at hx278_1); (try rw [Addr.add_zero'] at hx278_1); replace p278 := eq_true p278; replace q278 := eq_true q278) | (go_at_call 49; (with_reducible refine (spec_PointOk.calls ((rd_T55 y274 0).f0) ((rd_T55 y274 0).f1) true _ A14.out).mono ?_); rintro e w28 ⟨rfl, hb⟩; replace HO276 := Aside0.mk (Kd.R_below (rr_ HO276.out) hb); replace BK272 := Aside0.mk (blk_below (bk_ BK272.out) hb); replace BK273 := Aside0.mk (blk_below (bk_ BK273.out) hb); replace HB := Aside0.mk (below_step bS hb); (try clear hb); have p280 : 0 ≤ (2 : Int) := (by omega); have q280 : 2 < (y274.length : Int) := of_decide_eq_true as_; obtain ⟨ad280, e280, hx280_0, hx280_1⟩ := at_T55 (Kd.R_reads' HO276.out).2.2 2 p280 q280; obtain rfl : ad278 = ad280 := (by injection e280); (try simp only [show (2 : Int).toNat = 2 from rfl, Nat.reduceMul, Nat.reduceEqDiff, Go.Addr.add, ↓reduceIte] at hx280_0); (try simp only [show (2 : Int).toNat = 2 from rfl, Nat.reduceMul, Nat.reduceEqDiff, Go.Addr.add, ↓reduceIte] at hx280_1); have qi280 : (2 < y274.length) = True := eq_true (by omega); (try rw [show ((2 : Int)).toNat = 2 from rfl] at hx280_0); (try rw [show 2 * 2 = 4 from rfl] at hx280_0); (try rw [show ((2 : Int)).toNat = 2 from rfl] at hx280_1); (try rw [show 2 * 2 = 4 from rfl] at hx280_1); replace p280 := eq_true p280; replace q280 := eq_true q280) | (go_at_call 49; (with_reducible refine (spec_PointOk.calls ((rd_T55 y274 2).f0) ((rd_T55 y274 2).f1) true _ A17.out).mono ?_); rintro e w29 ⟨rfl, hb⟩; replace HO276 := Aside0.mk (Kd.R_below (rr_ HO276.out) hb); replace BK272 := Aside0.mk (blk_below (bk_ BK272.out) hb); replace BK273 := Aside0.mk (blk_below (bk_ BK273.out) hb); replace HB := Aside0.mk (below_step bS hb); (try clear hb)) | ((with_reducible refine gate_dst (N := 42) rfl ?_); refine Kd.R_lit (Kd.int .i64) _ 3 ?hg (N := 42) ?hd (xs := ([1, 2, 2, 2, 5] : List Int)) (inner := [.int .i64 1, .int .i64 2, .int .i64 2, .int .i64 2, .int .i64 5]) (ok := fun _ => True) (okp := fun _ => True) ?hr ?hp (fun _ hk => hk) trivial (Below.refl _ _) (Nat.le_refl _) (by simp) ?_; (case hd => rfl); (case hg => rfl); (case hr => first | (go_simp; done) | (go_simp; rfl)); (case hp => exact (Reps.one (show Kd.M (Kd.int .i64) _ _ _ 1 [.int .i64 1] from rfl) (Reps.one (show Kd.M (Kd.int .i64) _ _ _ 2 [.int .i64 2] from rfl) (Reps.one (show Kd.M (Kd.int .i64) _ _ _ 2 [.int .i64 2] from rfl) (Reps.one (show Kd.M (Kd.int .i64) _ _ _ 2 [.int .i64 2] from rfl) (Reps.one (show Kd.M (Kd.int .i64) _ _ _ 5 [.int .i64 5] from rfl) (Reps.none _ _))))))); intro v283 w30 ho31 hb hg_ hnew_; clear hg_ hnew_; (first | rw [← Ny282.out] at ho31 | (simp only [Int.reduceToNat] at ho31; rw [← Ny282.out] at ho31)); replace HO276 := Aside0.mk (Kd.R_below (rr_ HO276.out) hb); have HO284 := Aside0.mk (Kd.R_lower ho31 (below_size bS)); replace BK272 := Aside0.mk (blk_below (bk_ BK272.out) hb); replace BK273 := Aside0.mk (blk_below (bk_ BK273.out) hb); replace HB := Aside0.mk (below_step bS hb); clear hb ho31; obtain ⟨Ao32, co32, eo32⟩ := Kd.R_slice HO284.out; subst eo32; have hcz33_0 : w30.cell? ⟨gb273, 0, none⟩ = some (.slice none 0 0) := (blk_cell BK273.out 0).trans rfl; have hcz33_1 : w30.cell? ⟨gb273, 1, none⟩ = some (.slice none 0 0) := (blk_cell BK273.out 1).trans rfl; have hfz33_0 := blk_frozen BK273.out 0; have hfz33_1 := blk_frozen BK273.out 1))
      refine bodyPost_ret (results_cell_row rfl _ _ gb273 37 #[.slice Ao32 y282.length co32, .slice (some ad278) y274.length co27] (0, 0) _ rfl (by refine bk_ ?_; refine blk_put (cs := #[.slice Ao32 y282.length co32, .slice none 0 0]) ?_ 1 _ rfl; refine bk_ ?_; refine blk_put (cs := #[.slice none 0 0, .slice none 0 0]) ?_ 0 _ rfl; exact bk_ BK273.out) Tryd.underlying37 rfl (by kernel_rfl)) rfl ?_
      exact ⟨_, _, by first | rfl | (simp [errW_none, errW_some] <;> rfl) | (simp [*, errW_none, errW_some] <;> rfl), by refine rr_ ?_; exact Kd.R_mono (Kd.R_far (p := ⟨gb273, 1, none⟩) (Kd.R_far (p := ⟨gb273, 0, none⟩) (Kd.R_types HO284.out BK273.out (by decide)) (fun _ hk => hk.2) (.slice Ao32 y282.length co32)) (fun _ hk => hk.2) (.slice (some ad278) y274.length co27)) (fun _ hk => trivial), by refine rr_ ?_; exact Kd.R_mono (Kd.R_far (p := ⟨gb273, 1, none⟩) (Kd.R_far (p := ⟨gb273, 0, none⟩) (Kd.R_types HO276.out BK273.out (by decide)) (fun _ hk => hk.2) (.slice Ao32 y282.length co32)) (fun _ hk => hk.2) (.slice (some ad278) y274.length co27)) (fun _ hk => trivial), by exact bS⟩
     ·replace c18 := Bool.eq_false_iff.mpr c18
      subst c18
      have H1 : (some (([] : List Int), ([] : List (S55)))) = some (r1, r2) := by rw [if_neg (show ¬ (false = true) by decide)] at H; exact H
      clear H
      have H := H1
      clear H1
      simp only [Option.some.injEq, Prod.mk.injEq] at H
      obtain ⟨rfl, rfl⟩ := H
      go_enter Tryd.func82, Tryd.ntmps82
      go_wp2_with (first | ((with_reducible refine gate_dst (N := 1) rfl ?_); refine box_event ?hg (N := 1) ?hd (cs := #[.int .i64 a0_0, .int .i64 a0_1, .int .i64 a0_2, .int .i64 a0_3]) (t := 101) ?hr ?_; (case hd => rfl); (case hg => rfl); (case hr => first | (go_simp; done) | (go_simp; rfl)); intro gb272 hg w34 hbox hb; have BK272 := Aside0.mk (hbox); have GW272 := Aside0.mk ((by rw [hg]; exact (below_size bS) : w.heap.size ≤ gb272)); have GE272 := Aside0.mk ((by rw [hg]; exact (below_size bS) : w.heap.size ≤ gb272)); replace HB := Aside0.mk (below_step bS hb); clear hb hbox hg) | ((with_reducible refine gate_dst (N := 2) rfl ?_); refine box_event ?hg (N := 2) ?hd (cs := #[.slice none 0 0, .slice none 0 0]) (t := 37) ?hr ?_; (case hd => rfl); (case hg => rfl); (case hr => first | (go_simp; done) | (go_simp; rfl)); intro gb273 hg w35 hbox hb; have BK273 := Aside0.mk (hbox); have GW273 := Aside0.mk ((by rw [hg]; exact (below_size bS) : w.heap.size ≤ gb273)); have GE273 := Aside0.mk ((by rw [hg]; exact (below_size bS) : w.heap.size ≤ gb273)); replace HB := Aside0.mk (below_step bS hb); have NB272_273 := Aside0.mk ((by rw [hg]; exact Nat.ne_of_lt (blk_lt (bk_ BK272.out)) : gb272 ≠ gb273)); have NB273_272 := Aside0.mk ((by rw [hg]; exact Nat.ne_of_gt (blk_lt (bk_ BK272.out)) : gb273 ≠ gb272)); replace BK272 := Aside0.mk (blk_below (bk_ BK272.out) hb); clear hb hbox hg; have hnb36 := NB272_273.out; have hnc36 := NB273_272.out; have hcz37_0 : w35.cell? ⟨gb272, 0, none⟩ = some (.int .i64 a0_0) := (blk_cell BK272.out 0).trans rfl; have hcz37_1 : w35.cell? ⟨gb272, 1, none⟩ = some (.int .i64 a0_1) := (blk_cell BK272.out 1).trans rfl; have hcz37_2 : w35.cell? ⟨gb272, 2, none⟩ = some (.int .i64 a0_2) := (blk_cell BK272.out 2).trans rfl; have hcz37_3 : w35.cell? ⟨gb272, 3, none⟩ = some (.int .i64 a0_3) := (blk_cell BK272.out 3).trans rfl; have hfz37_0 := blk_frozen BK272.out 0; have hfz37_1 := blk_frozen BK272.out 1; have hfz37_2 := blk_frozen BK272.out 2; have hfz37_3 := blk_frozen BK272.out 3) | ((with_reducible refine gate_dst (N := 24) rfl ?_); refine Kd.R_lit k55 _ 55 ?hg (N := 24) ?hd (xs := ([(⟨a0_0, a0_1⟩ : S55), (⟨a0_2, a0_1⟩ : S55), (⟨a0_2, a0_3⟩ : S55), (⟨a0_0, a0_3⟩ : S55)] : List (S55))) (inner := [.int .i64 a0_0, .int .i64 a0_1, .int .i64 a0_2, .int .i64 a0_1, .int .i64 a0_2, .int .i64 a0_3, .int .i64 a0_0, .int .i64 a0_3]) (ok := fun _ => True) (okp := fun _ => True) ?hr ?hp (fun _ hk => hk) trivial (Below.refl _ _) (Nat.le_refl _) (by simp) ?_; (case hd => rfl); (case hg => rfl); (case hr => first | (go_simp; done) | (go_simp; rfl)); (case hp => exact (Reps.c2 (show Kd.M k55 _ _ _ (⟨a0_0, a0_1⟩ : S55) [.int .i64 a0_0, .int .i64 a0_1] from (k55_mkM _ _ _ (⟨a0_0, a0_1⟩ : S55) )) (Reps.c2 (show Kd.M k55 _ _ _ (⟨a0_2, a0_1⟩ : S55) [.int .i64 a0_2, .int .i64 a0_1] from (k55_mkM _ _ _ (⟨a0_2, a0_1⟩ : S55) )) (Reps.c2 (show Kd.M k55 _ _ _ (⟨a0_2, a0_3⟩ : S55) [.int .i64 a0_2, .int .i64 a0_3] from (k55_mkM _ _ _ (⟨a0_2, a0_3⟩ : S55) )) (Reps.c2 (show Kd.M k55 _ _ _ (⟨a0_0, a0_3⟩ : S55) [.int .i64 a0_0, .int .i64 a0_3] from (k55_mkM _ _ _ (⟨a0_0, a0_3⟩ : S55) )) (Reps.none _ _)))))); intro v275 w38 ho39 hb hg_ hnew_; clear hg_ hnew_; (first | rw [← Ny274.out] at ho39 | (simp only [Int.reduceToNat] at ho39; rw [← Ny274.out] at ho39)); have HO276 := Aside0.mk (Kd.R_lower ho39 (below_size bS)); replace BK272 := Aside0.mk (blk_below (bk_ BK272.out) hb); replace BK273 := Aside0.mk (blk_below (bk_ BK273.out) hb); replace HB := Aside0.mk (below_step bS hb); clear hb ho39; have hcz40_0 : w38.cell? ⟨gb272, 0, none⟩ = some (.int .i64 a0_0) := (blk_cell BK272.out 0).trans rfl; have hcz40_1 : w38.cell? ⟨gb272, 1, none⟩ = some (.int .i64 a0_1) := (blk_cell BK272.out 1).trans rfl; have hcz40_2 : w38.cell? ⟨gb272, 2, none⟩ = some (.int .i64 a0_2) := (blk_cell BK272.out 2).trans rfl; have hcz40_3 : w38.cell? ⟨gb272, 3, none⟩ = some (.int .i64 a0_3) := (blk_cell BK272.out 3).trans rfl; have hfz40_0 := blk_frozen BK272.out 0; have hfz40_1 := blk_frozen BK272.out 1; have hfz40_2 := blk_frozen BK272.out 2; have hfz40_3 := blk_frozen BK272.out 3) | ((with_reducible refine gate_callee (f := 97) rfl ?_); refine goesL_ (some 26) rfl rfl Tryd.func97 (by kernel_rfl) rfl #[.agg #[.int .i64 a0_0, .int .i64 a0_1, .int .i64 a0_2, .int .i64 a0_3]] rfl lm_ ?_; (with_reducible refine (spec_Empty.calls a0_0 a0_1 a0_2 a0_3 false _ A2.out).mono ?_); rintro e w41 ⟨rfl, hb⟩; refine ⟨_, rfl, ?_⟩; replace HO276 := Aside0.mk (Kd.R_below (rr_ HO276.out) hb); replace BK272 := Aside0.mk (blk_below (bk_ BK272.out) hb); replace BK273 := Aside0.mk (blk_below (bk_ BK273.out) hb); replace HB := Aside0.mk (below_step bS hb); (try clear hb); obtain ⟨Ao42, co42, eo42⟩ := Kd.R_slice HO276.out; subst eo42; have p278 : 0 ≤ (0 : Int) := (by omega); have q278 : 0 < (y274.length : Int) := of_decide_eq_true as_; obtain ⟨ad278, e278, hx278_0, hx278_1⟩ := at_T55 (Kd.R_reads' HO276.out).2.2 0 p278 q278; cases e278; have qi278 : (0 < y274.length) = True := eq_true (by omega); (try rw [show ((0 : Int)).toNat = 0 from rfl] at hx278_0); (try rw [show 0 * 2 = 0 from rfl] at hx278_0); (try rw [Addr.add_zero'] at hx278_0); (try rw [show ((0 : Int)).toNat = 0 from rfl] at hx278_1); (try rw [show 0 * 2 = 0 from rfl] at hx278_1); (try rw [Addr.add_zero'] at hx278_1); replace p278 := eq_true p278; replace q278 := eq_true q278) | (go_at_call 49; (with_reducible refine (spec_PointOk.calls ((rd_T55 y274 0).f0) ((rd_T55 y274 0).f1) true _ A14.out).mono ?_); rintro e w43 ⟨rfl, hb⟩; replace HO276 := Aside0.mk (Kd.R_below (rr_ HO276.out) hb); replace BK272 := Aside0.mk (blk_below (bk_ BK272.out) hb); replace BK273 := Aside0.mk (blk_below (bk_ BK273.out) hb); replace HB := Aside0.mk (below_step bS hb); (try clear hb); have p280 : 0 ≤ (2 : Int) := (by omega); have q280 : 2 < (y274.length : Int) := of_decide_eq_true as_; obtain ⟨ad280, e280, hx280_0, hx280_1⟩ := at_T55 (Kd.R_reads' HO276.out).2.2 2 p280 q280; obtain rfl : ad278 = ad280 := (by injection e280); (try simp only [show (2 : Int).toNat = 2 from rfl, Nat.reduceMul, Nat.reduceEqDiff, Go.Addr.add, ↓reduceIte] at hx280_0); (try simp only [show (2 : Int).toNat = 2 from rfl, Nat.reduceMul, Nat.reduceEqDiff, Go.Addr.add, ↓reduceIte] at hx280_1); have qi280 : (2 < y274.length) = True := eq_true (by omega); (try rw [show ((2 : Int)).toNat = 2 from rfl] at hx280_0); (try rw [show 2 * 2 = 4 from rfl] at hx280_0); (try rw [show ((2 : Int)).toNat = 2 from rfl] at hx280_1); (try rw [show 2 * 2 = 4 from rfl] at hx280_1); replace p280 := eq_true p280; replace q280 := eq_true q280) | (go_at_call 49; (with_reducible refine (spec_PointOk.calls ((rd_T55 y274 2).f0) ((rd_T55 y274 2).f1) false _ A17.out).mono ?_); rintro e w44 ⟨rfl, hb⟩; replace HO276 := Aside0.mk (Kd.R_below (rr_ HO276.out) hb); replace BK272 := Aside0.mk (blk_below (bk_ BK272.out) hb); replace BK273 := Aside0.mk (blk_below (bk_ BK273.out) hb); replace HB := Aside0.mk (below_step bS hb); (try clear hb); have hcz45_0 : w44.cell? ⟨gb273, 0, none⟩ = some (.slice none 0 0) := (blk_cell BK273.out 0).trans rfl; have hcz45_1 : w44.cell? ⟨gb273, 1, none⟩ = some (.slice none 0 0) := (blk_cell BK273.out 1).trans rfl; have hfz45_0 := blk_frozen BK273.out 0; have hfz45_1 := blk_frozen BK273.out 1))
      refine bodyPost_ret (results_cell_row rfl _ _ gb273 37 #[.slice none 0 0, .slice none 0 0] (0, 0) _ rfl (by refine bk_ ?_; refine blk_put (cs := #[.slice none 0 0, .slice none 0 0]) ?_ 1 _ rfl; refine bk_ ?_; refine blk_put (cs := #[.slice none 0 0, .slice none 0 0]) ?_ 0 _ rfl; exact bk_ BK273.out) Tryd.underlying37 rfl (by kernel_rfl)) rfl ?_
      exact ⟨_, _, by first | rfl | (simp [errW_none, errW_some] <;> rfl) | (simp [*, errW_none, errW_some] <;> rfl), by first | exact Kd.R_nil _ _ _ _ _ | exact Kd.N_nil _ _ _ _ _ | exact Kd.V_nil _ _ _ _ _ | exact Kd.Q_nil _ _ _ _ _ | exact Kd.S_nil _ _ _ _ _, by first | exact Kd.R_nil _ _ _ _ _ | exact Kd.N_nil _ _ _ _ _ | exact Kd.V_nil _ _ _ _ _ | exact Kd.Q_nil _ _ _ _ _ | exact Kd.S_nil _ _ _ _ _, by exact bS⟩
    ·rw [if_neg c16] at H
     exact absurd H (by simp)
   ·replace c15 := Bool.eq_false_iff.mpr c15
    subst c15
    have H1 : (some (([] : List Int), ([] : List (S55)))) = some (r1, r2) := by rw [if_neg (show ¬ (false = true) by decide)] at H; exact H
    clear H
    have H := H1
    clear H1
    simp only [Option.some.injEq, Prod.mk.injEq] at H
    obtain ⟨rfl, rfl⟩ := H
    go_enter Tryd.func82, Tryd.ntmps82
    go_wp2_with (first | ((with_reducible refine gate_dst (N := 1) rfl ?_); refine box_event ?hg (N := 1) ?hd (cs := #[.int .i64 a0_0, .int .i64 a0_1, .int .i64 a0_2, .int .i64 a0_3]) (t := 101) ?hr ?_; (case hd => rfl); (case hg => rfl); (case hr => first | (go_simp; done) | (go_simp; rfl)); intro gb272 hg w46 hbox hb; have BK272 := Aside0.mk (hbox); have GW272 := Aside0.mk ((by rw [hg]; exact (below_size bS) : w.heap.size ≤ gb272)); have GE272 := Aside0.mk ((by rw [hg]; exact (below_size bS) : w.heap.size ≤ gb272)); replace HB := Aside0.mk (below_step bS hb); clear hb hbox hg) | ((with_reducible refine gate_dst (N := 2) rfl ?_); refine box_event ?hg (N := 2) ?hd (cs := #[.slice none 0 0, .slice none 0 0]) (t := 37) ?hr ?_; (case hd => rfl); (case hg => rfl); (case hr => first | (go_simp; done) | (go_simp; rfl)); intro gb273 hg w47 hbox hb; have BK273 := Aside0.mk (hbox); have GW273 := Aside0.mk ((by rw [hg]; exact (below_size bS) : w.heap.size ≤ gb273)); have GE273 := Aside0.mk ((by rw [hg]; exact (below_size bS) : w.heap.size ≤ gb273)); replace HB := Aside0.mk (below_step bS hb); have NB272_273 := Aside0.mk ((by rw [hg]; exact Nat.ne_of_lt (blk_lt (bk_ BK272.out)) : gb272 ≠ gb273)); have NB273_272 := Aside0.mk ((by rw [hg]; exact Nat.ne_of_gt (blk_lt (bk_ BK272.out)) : gb273 ≠ gb272)); replace BK272 := Aside0.mk (blk_below (bk_ BK272.out) hb); clear hb hbox hg; have hnb48 := NB272_273.out; have hnc48 := NB273_272.out; have hcz49_0 : w47.cell? ⟨gb272, 0, none⟩ = some (.int .i64 a0_0) := (blk_cell BK272.out 0).trans rfl; have hcz49_1 : w47.cell? ⟨gb272, 1, none⟩ = some (.int .i64 a0_1) := (blk_cell BK272.out 1).trans rfl; have hcz49_2 : w47.cell? ⟨gb272, 2, none⟩ = some (.int .i64 a0_2) := (blk_cell BK272.out 2).trans rfl; have hcz49_3 : w47.cell? ⟨gb272, 3, none⟩ = some (.int .i64 a0_3) := (blk_cell BK272.out 3).trans rfl; have hfz49_0 := blk_frozen BK272.out 0; have hfz49_1 := blk_frozen BK272.out 1; have hfz49_2 := blk_frozen BK272.out 2; have hfz49_3 := blk_frozen BK272.out 3) | ((with_reducible refine gate_dst (N := 24) rfl ?_); refine Kd.R_lit k55 _ 55 ?hg (N := 24) ?hd (xs := ([(⟨a0_0, a0_1⟩ : S55), (⟨a0_2, a0_1⟩ : S55), (⟨a0_2, a0_3⟩ : S55), (⟨a0_0, a0_3⟩ : S55)] : List (S55))) (inner := [.int .i64 a0_0, .int .i64 a0_1, .int .i64 a0_2, .int .i64 a0_1, .int .i64 a0_2, .int .i64 a0_3, .int .i64 a0_0, .int .i64 a0_3]) (ok := fun _ => True) (okp := fun _ => True) ?hr ?hp (fun _ hk => hk) trivial (Below.refl _ _) (Nat.le_refl _) (by simp) ?_; (case hd => rfl); (case hg => rfl); (case hr => first | (go_simp; done) | (go_simp; rfl)); (case hp => exact (Reps.c2 (show Kd.M k55 _ _ _ (⟨a0_0, a0_1⟩ : S55) [.int .i64 a0_0, .int .i64 a0_1] from (k55_mkM _ _ _ (⟨a0_0, a0_1⟩ : S55) )) (Reps.c2 (show Kd.M k55 _ _ _ (⟨a0_2, a0_1⟩ : S55) [.int .i64 a0_2, .int .i64 a0_1] from (k55_mkM _ _ _ (⟨a0_2, a0_1⟩ : S55) )) (Reps.c2 (show Kd.M k55 _ _ _ (⟨a0_2, a0_3⟩ : S55) [.int .i64 a0_2, .int .i64 a0_3] from (k55_mkM _ _ _ (⟨a0_2, a0_3⟩ : S55) )) (Reps.c2 (show Kd.M k55 _ _ _ (⟨a0_0, a0_3⟩ : S55) [.int .i64 a0_0, .int .i64 a0_3] from (k55_mkM _ _ _ (⟨a0_0, a0_3⟩ : S55) )) (Reps.none _ _)))))); intro v275 w50 ho51 hb hg_ hnew_; clear hg_ hnew_; (first | rw [← Ny274.out] at ho51 | (simp only [Int.reduceToNat] at ho51; rw [← Ny274.out] at ho51)); have HO276 := Aside0.mk (Kd.R_lower ho51 (below_size bS)); replace BK272 := Aside0.mk (blk_below (bk_ BK272.out) hb); replace BK273 := Aside0.mk (blk_below (bk_ BK273.out) hb); replace HB := Aside0.mk (below_step bS hb); clear hb ho51; have hcz52_0 : w50.cell? ⟨gb272, 0, none⟩ = some (.int .i64 a0_0) := (blk_cell BK272.out 0).trans rfl; have hcz52_1 : w50.cell? ⟨gb272, 1, none⟩ = some (.int .i64 a0_1) := (blk_cell BK272.out 1).trans rfl; have hcz52_2 : w50.cell? ⟨gb272, 2, none⟩ = some (.int .i64 a0_2) := (blk_cell BK272.out 2).trans rfl; have hcz52_3 : w50.cell? ⟨gb272, 3, none⟩ = some (.int .i64 a0_3) := (blk_cell BK272.out 3).trans rfl; have hfz52_0 := blk_frozen BK272.out 0; have hfz52_1 := blk_frozen BK272.out 1; have hfz52_2 := blk_frozen BK272.out 2; have hfz52_3 := blk_frozen BK272.out 3) | ((with_reducible refine gate_callee (f := 97) rfl ?_); refine goesL_ (some 26) rfl rfl Tryd.func97 (by kernel_rfl) rfl #[.agg #[.int .i64 a0_0, .int .i64 a0_1, .int .i64 a0_2, .int .i64 a0_3]] rfl lm_ ?_; (with_reducible refine (spec_Empty.calls a0_0 a0_1 a0_2 a0_3 false _ A2.out).mono ?_); rintro e w53 ⟨rfl, hb⟩; refine ⟨_, rfl, ?_⟩; replace HO276 := Aside0.mk (Kd.R_below (rr_ HO276.out) hb); replace BK272 := Aside0.mk (blk_below (bk_ BK272.out) hb); replace BK273 := Aside0.mk (blk_below (bk_ BK273.out) hb); replace HB := Aside0.mk (below_step bS hb); (try clear hb); obtain ⟨Ao54, co54, eo54⟩ := Kd.R_slice HO276.out; subst eo54; have p278 : 0 ≤ (0 : Int) := (by omega); have q278 : 0 < (y274.length : Int) := of_decide_eq_true as_; obtain ⟨ad278, e278, hx278_0, hx278_1⟩ := at_T55 (Kd.R_reads' HO276.out).2.2 0 p278 q278; cases e278; have qi278 : (0 < y274.length) = True := eq_true (by omega); (try rw [show ((0 : Int)).toNat = 0 from rfl] at hx278_0); (try rw [show 0 * 2 = 0 from rfl] at hx278_0); (try rw [Addr.add_zero'] at hx278_0); (try rw [show ((0 : Int)).toNat = 0 from rfl] at hx278_1); (try rw [show 0 * 2 = 0 from rfl] at hx278_1); (try rw [Addr.add_zero'] at hx278_1); replace p278 := eq_true p278; replace q278 := eq_true q278) | (go_at_call 49; (with_reducible refine (spec_PointOk.calls ((rd_T55 y274 0).f0) ((rd_T55 y274 0).f1) false _ A14.out).mono ?_); rintro e w55 ⟨rfl, hb⟩; replace HO276 := Aside0.mk (Kd.R_below (rr_ HO276.out) hb); replace BK272 := Aside0.mk (blk_below (bk_ BK272.out) hb); replace BK273 := Aside0.mk (blk_below (bk_ BK273.out) hb); replace HB := Aside0.mk (below_step bS hb); (try clear hb); have hcz56_0 : w55.cell? ⟨gb273, 0, none⟩ = some (.slice none 0 0) := (blk_cell BK273.out 0).trans rfl; have hcz56_1 : w55.cell? ⟨gb273, 1, none⟩ = some (.slice none 0 0) := (blk_cell BK273.out 1).trans rfl; have hfz56_0 := blk_frozen BK273.out 0; have hfz56_1 := blk_frozen BK273.out 1))
    refine bodyPost_ret (results_cell_row rfl _ _ gb273 37 #[.slice none 0 0, .slice none 0 0] (0, 0) _ rfl (by refine bk_ ?_; refine blk_put (cs := #[.slice none 0 0, .slice none 0 0]) ?_ 1 _ rfl; refine bk_ ?_; refine blk_put (cs := #[.slice none 0 0, .slice none 0 0]) ?_ 0 _ rfl; exact bk_ BK273.out) Tryd.underlying37 rfl (by kernel_rfl)) rfl ?_
    exact ⟨_, _, by first | rfl | (simp [errW_none, errW_some] <;> rfl) | (simp [*, errW_none, errW_some] <;> rfl), by first | exact Kd.R_nil _ _ _ _ _ | exact Kd.N_nil _ _ _ _ _ | exact Kd.V_nil _ _ _ _ _ | exact Kd.Q_nil _ _ _ _ _ | exact Kd.S_nil _ _ _ _ _, by first | exact Kd.R_nil _ _ _ _ _ | exact Kd.N_nil _ _ _ _ _ | exact Kd.V_nil _ _ _ _ _ | exact Kd.Q_nil _ _ _ _ _ | exact Kd.S_nil _ _ _ _ _, by exact bS⟩
  ·rw [if_neg c13] at H
   exact absurd H (by simp)

/-! ### spec_l01PickInt: function 83 -/
def spec_l01PickInt.f (s0_0 : List Int) (s0_1 : Int) (s0_2 : Int) (l1 : List Int) : Option (Int × Int × Int) := (spec_l01Below.f s0_0 s0_1 s0_2 (l1.length : Int)).bind fun bt285 => (if 0 ≤ bt285.1 then (if bt285.1 < (l1.length : Int) then (some (rd l1 bt285.1, bt285.2.1, bt285.2.2)) else (none)) else (none))
set_option maxHeartbeats 8000000 in
set_option maxRecDepth 100000 in
theorem spec_l01PickInt.calls (g : Nat) (s0_0 : List Int) (s0_1 : Int) (s0_2 : Int) (A1 : Option Addr) (c1 : Nat) (l1 : List Int) (r1 : Int) (r2 : Int) (r3 : Int) (w0 w : World) (hI : IsS92 w0 w g s0_0 s0_1 s0_2) (hB : Below w0.heap.size w0 w) (hr1 : Kd.C (Kd.int .i64) w A1 l1.length l1) (hc1 : l1.length ≤ c1) (hf1 : ∀ ad, A1 = some ad → 0 < l1.length → ad.block ≠ g) (h : spec_l01PickInt.f s0_0 s0_1 s0_2 l1 = some (r1, r2, r3)) :
    Calls Tryd.prog 83 #[.pointer (some ⟨g, 0, none⟩), .slice A1 l1.length c1] w fun e w' => e = .returned (.int .i64 r1) ∧ IsS92 w0 w' g s0_0 r2 r3 ∧ Below w0.heap.size w0 w' ∧ KeepBut w w' g none := by
 have HR1 := Aside0.mk hr1
 have HC1 := Aside0.mk hc1
 clear hr1 hc1
 have HI0 := Aside0.mk hI
 have HK := Aside0.mk (KeepBut.refl w g none)
 have HL := Aside0.mk hB.size
 clear hI
 have HW0 := Aside0.mk hB.size
 have HB := Aside0.mk hB
 clear hB
 have H : ((spec_l01Below.f s0_0 s0_1 s0_2 (l1.length : Int)).bind fun bt285 => (if 0 ≤ bt285.1 then (if bt285.1 < (l1.length : Int) then (some (rd l1 bt285.1, bt285.2.1, bt285.2.2)) else (none)) else (none))) = some (r1, r2, r3) := h
 clear h
 replace H := Option.bind_eq_some_iff.mp H
 obtain ⟨⟨t285, t286, t287⟩, A30, H⟩ := H
 try dsimp only at H
 have A3 := Aside0.mk A30
 clear A30
 by_cases c4 : 0 ≤ t285
 ·rw [if_pos c4] at H
  have c4b0 : decide (0 ≤ t285) = true := decide_eq_true c4
  clear c4
  by_cases c5 : t285 < (l1.length : Int)
  ·rw [if_pos c5] at H
   have c5b0 : decide (t285 < (l1.length : Int)) = true := decide_eq_true c5
   clear c5
   simp only [Option.some.injEq, Prod.mk.injEq] at H
   obtain ⟨rfl, rfl, rfl⟩ := H
   go_enter Tryd.func83, Tryd.ntmps83
   go_wp2_with (first | ((with_reducible refine gate_callee (f := 53) rfl ?_); refine goesL_ (some 9) rfl rfl Tryd.func53 (by kernel_rfl) rfl #[.pointer (some ⟨g, 0, none⟩), .int .i64 (l1.length : Int)] rfl lm_ ?_; (with_reducible refine (spec_l01Below.calls g s0_0 s0_1 s0_2 (l1.length : Int) t285 t286 t287 w0 _ ?side1 ?side2 A3.out).mono ?_); (case side1 => exact iS); (case side2 => exact bI); rintro e w6 ⟨rfl, hi, hb, hk⟩; refine ⟨_, rfl, ?_⟩; replace HK := Aside0.mk (KeepBut.trans kS hk (.inl rfl)); replace HB := Aside0.mk (hb); replace HI0 := Aside0.mk (hi); (try clear hb hk hi); have p288 : 0 ≤ (t285 : Int) := of_decide_eq_true as_; have q288 : t285 < (l1.length : Int) := of_decide_eq_true as_; obtain ⟨ad288, e288, hx288_0⟩ := Kd.at_int HR1.out t285 p288 q288; cases e288; replace hx288_0 := keep_cell HK.out hx288_0 (by first | (rw [add_block]; exact hf1 _ rfl (by omega)) | exact hf1 _ rfl (by omega) | exact hf1 ad288 rfl (by omega)); replace p288 := eq_true p288; replace q288 := eq_true q288))
   go_ret
   exact ⟨by first | rfl | (simp [errW_none, errW_some] <;> rfl) | (simp [*, errW_none, errW_some] <;> rfl), by exact iS, by exact bI, by exact kS⟩
  ·rw [if_neg c5] at H
   exact absurd H (by simp)
 ·rw [if_neg c4] at H
  exact absurd H (by simp)

/-! ### spec_l04Point: function 84 -/
def spec_l04Point.f (s0_0 : List Int) (s0_1 : Int) (s0_2 : Int) : Option (Int × Int × Int × Int) := (spec_l01Below.f s0_0 s0_1 s0_2 3600).bind fun bt290 => ((spec_l01Below.f s0_0 bt290.2.1 bt290.2.2 3600).bind fun bt293 => (some (wrap64 (bt290.1 - 300), wrap64 (bt293.1 - 300), bt293.2.1, bt293.2.2)))
set_option maxHeartbeats 8000000 in
set_option maxRecDepth 100000 in
theorem spec_l04Point.calls (g : Nat) (s0_0 : List Int) (s0_1 : Int) (s0_2 : Int) (r1 : Int) (r2 : Int) (r3 : Int) (r4 : Int) (w0 w : World) (hI : IsS92 w0 w g s0_0 s0_1 s0_2) (hB : Below w0.heap.size w0 w) (h : spec_l04Point.f s0_0 s0_1 s0_2 = some (r1, r2, r3, r4)) :
    Calls Tryd.prog 84 #[.pointer (some ⟨g, 0, none⟩)] w fun e w' => e = .returned (.agg #[.int .i64 r1, .int .i64 r2]) ∧ IsS92 w0 w' g s0_0 r3 r4 ∧ Below w0.heap.size w0 w' ∧ KeepBut w w' g none := by
 have hu55 := Tryd.underlying55
 have HI0 := Aside0.mk hI
 have HK := Aside0.mk (KeepBut.refl w g none)
 have HL := Aside0.mk hB.size
 clear hI
 have HW0 := Aside0.mk hB.size
 have HB := Aside0.mk hB
 clear hB
 have H : ((spec_l01Below.f s0_0 s0_1 s0_2 3600).bind fun bt290 => ((spec_l01Below.f s0_0 bt290.2.1 bt290.2.2 3600).bind fun bt293 => (some (wrap64 (bt290.1 - 300), wrap64 (bt293.1 - 300), bt293.2.1, bt293.2.2)))) = some (r1, r2, r3, r4) := h
 clear h
 replace H := Option.bind_eq_some_iff.mp H
 obtain ⟨⟨t290, t291, t292⟩, A20, H⟩ := H
 try dsimp only at H
 have A2 := Aside0.mk A20
 clear A20
 replace H := Option.bind_eq_some_iff.mp H
 obtain ⟨⟨t293, t294, t295⟩, A30, H⟩ := H
 try dsimp only at H
 have A3 := Aside0.mk A30
 clear A30
 simp only [Option.some.injEq, Prod.mk.injEq] at H
 obtain ⟨rfl, rfl, rfl, rfl⟩ := H
 go_enter Tryd.func84, Tryd.ntmps84
 go_wp2_with (first | ((with_reducible refine gate_dst (N := 2) rfl ?_); refine box_event ?hg (N := 2) ?hd (cs := #[.int .i64 0, .int .i64 0]) (t := 55) ?hr ?_; (case hd => rfl); (case hg => rfl); (case hr => first | (go_simp; done) | (go_simp; rfl)); intro gb289 hg w4 hbox hb; replace HB := Aside0.mk (below_step bI hb); have BK289 := Aside0.mk (hbox); have GW289 := Aside0.mk ((by rw [hg]; exact (kz w g) : w.heap.size ≤ gb289)); have GE289 := Aside0.mk ((Nat.le_trans HW0.out (by rw [hg]; exact (kz w g) : w.heap.size ≤ gb289) : w0.heap.size ≤ gb289)); replace HK := Aside0.mk (KeepBut.trans kS (KeepBut.of_below hb g none) (.inl rfl)); have NB0_289 := Aside0.mk ((by rw [hg]; exact Nat.ne_of_lt (IsS92.lt (show IsS92 w0 _ g s0_0 s0_1 s0_2 from iS)) : g ≠ gb289)); have NB289_0 := Aside0.mk ((by rw [hg]; exact Nat.ne_of_gt (IsS92.lt (show IsS92 w0 _ g s0_0 s0_1 s0_2 from iS)) : gb289 ≠ g)); replace HI0 := Aside0.mk (IsS92.below iS hb); clear hb hbox hg) | ((with_reducible refine gate_callee (f := 53) rfl ?_); refine goesL_ (some 4) rfl rfl Tryd.func53 (by kernel_rfl) rfl #[.pointer (some ⟨g, 0, none⟩), .int .i64 3600] rfl lm_ ?_; (with_reducible refine (spec_l01Below.calls g s0_0 s0_1 s0_2 3600 t290 t291 t292 w0 _ ?side1 ?side2 A2.out).mono ?_); (case side1 => exact iS); (case side2 => exact bI); rintro e w5 ⟨rfl, hi, hb, hk⟩; refine ⟨_, rfl, ?_⟩; replace BK289 := Aside0.mk (KeepBut.blk hk (bk_ BK289.out) NB289_0.out (by simp)); replace HK := Aside0.mk (KeepBut.trans kS hk (.inl rfl)); replace HB := Aside0.mk (hb); replace HI0 := Aside0.mk (hi); (try clear hb hk hi)) | ((with_reducible refine gate_callee (f := 53) rfl ?_); refine goesL_ (some 7) rfl rfl Tryd.func53 (by kernel_rfl) rfl #[.pointer (some ⟨g, 0, none⟩), .int .i64 3600] rfl lm_ ?_; (with_reducible refine (spec_l01Below.calls g s0_0 t291 t292 3600 t293 t294 t295 w0 _ ?side1 ?side2 A3.out).mono ?_); (case side1 => exact iS); (case side2 => exact bI); rintro e w6 ⟨rfl, hi, hb, hk⟩; refine ⟨_, rfl, ?_⟩; replace BK289 := Aside0.mk (KeepBut.blk hk (bk_ BK289.out) NB289_0.out (by simp)); replace HK := Aside0.mk (KeepBut.trans kS hk (.inl rfl)); replace HB := Aside0.mk (hb); replace HI0 := Aside0.mk (hi); (try clear hb hk hi); have hnb7 := NB289_0.out; have hnc7 := NB0_289.out; have hcz8_0 : w6.cell? ⟨gb289, 0, none⟩ = some (.int .i64 0) := (blk_cell BK289.out 0).trans rfl; have hcz8_1 : w6.cell? ⟨gb289, 1, none⟩ = some (.int .i64 0) := (blk_cell BK289.out 1).trans rfl; have hfz8_0 := blk_frozen BK289.out 0; have hfz8_1 := blk_frozen BK289.out 1))
 refine bodyPost_ret (results_cell_row rfl _ _ gb289 55 #[.int .i64 (wrap64 (t290 - 300)), .int .i64 (wrap64 (t293 - 300))] (0, 0) _ rfl (by refine bk_ ?_; refine blk_put (cs := #[.int .i64 (wrap64 (t290 - 300)), .int .i64 0]) ?_ 1 _ rfl; refine bk_ ?_; refine blk_put (cs := #[.int .i64 0, .int .i64 0]) ?_ 0 _ rfl; exact bk_ BK289.out) Tryd.underlying55 rfl (by kernel_rfl)) rfl ?_
 exact ⟨by first | rfl | (simp [errW_none, errW_some] <;> rfl) | (simp [*, errW_none, errW_some] <;> rfl), by exact iS, by exact bI, by exact kS⟩

end Go.Proofs.YtpmgfmalpijjbaaDoor.PFnPaths
