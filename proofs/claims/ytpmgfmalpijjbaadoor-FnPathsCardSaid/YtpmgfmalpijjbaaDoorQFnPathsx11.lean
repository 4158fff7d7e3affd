/- The walks of FnPaths, part 11: what the print wrote, with some proofs of the session's own. -/
import Derived.Test.YtpmgfmalpijjbaaDoorName
import Derived.Test.YtpmgfmalpijjbaaDoorShort
import Derived.Test.YtpmgfmalpijjbaaDoorQFnPathsx0
import Derived.Test.YtpmgfmalpijjbaaDoorQFnPathsx3
import Derived.Test.YtpmgfmalpijjbaaDoorQFnPathsx9
import Derived.Test.YtpmgfmalpijjbaaDoorQFnPathsx10
namespace Go.Proofs.YtpmgfmalpijjbaaDoor.PFnPaths
open Go.RowKit Go.Proofs.YtpmgfmalpijjbaaDoor.Short Go.Proofs.YtpmgfmalpijjbaaDoorW.PrintWords Go.Proofs.YtpmgfmalpijjbaaDoorW.PrintLast Go.Proofs.YtpmgfmalpijjbaaDoorW.PrintMore
attribute [local go_sem] max2_int min2_int max_two min_two max_three min_three max_four min_four   -- for this text's walks alone
set_option linter.unusedVariables false
set_option linter.unusedSimpArgs false

/-! ### spec_l06Path: function 68 -/
mutual
def spec_l06Path.l0 : Nat → Int → List Int → Int → Int → List Int → List (S55) → Option (List Int × (List (S55)) × Int × Int)
  | 0, _, _, _, _, _, _ => none
  | k + 1, x6, x1000, x1001, x1002, x319000, x319001 => (spec_l01Below.f x1000 x1001 x1002 6).bind fun bt319 => (if x6 < (wrap64 (1 + bt319.1)) then ((spec_l01PickInt.f x1000 bt319.2.1 bt319.2.2 (([2, 2, 2, 3, 4, 5, 1] : List Int))).bind fun bt325 => (if x6 = 0 then (spec_l06Path.j1 k x6 bt325.1 true x1000 bt325.2.1 bt325.2.2 x319000 x319001) else (if 0 ≤ (wrap64 (x6 - 1)) then (if (wrap64 (x6 - 1)) < (x319000.length : Int) then (spec_l06Path.j1 k x6 bt325.1 ((rd x319000 (wrap64 (x6 - 1))) == 5) x1000 bt325.2.1 bt325.2.2 x319000 x319001) else (none)) else (none)))) else (some (x319000, x319001, bt319.2.1, bt319.2.2)))
def spec_l06Path.j1 : Nat → Int → Int → Bool → List Int → Int → Int → List Int → List (S55) → Option (List Int × (List (S55)) × Int × Int)
  | 0, _, _, _, _, _, _, _, _ => none
  | k + 1, x6, x7, x50, x1000, x1001, x1002, x319000, x319001 => if x50 = true then (spec_l06Path.j2 k x6 1 x1000 x1001 x1002 x319000 x319001) else (spec_l06Path.j2 k x6 x7 x1000 x1001 x1002 x319000 x319001)
def spec_l06Path.j2 : Nat → Int → Int → List Int → Int → Int → List Int → List (S55) → Option (List Int × (List (S55)) × Int × Int)
  | 0, _, _, _, _, _, _, _ => none
  | k + 1, x6, x7, x1000, x1001, x1002, x319000, x319001 => (spec_NeedOf.f x7).bind fun t329 => (if (wrap64 ((x319001.length : Int) + t329)) > 24 then (some (x319000, x319001, x1001, x1002)) else (if x319000.length < 17592186044416 then (spec_l06Path.l1 k x6 x7 0 x1000 x1001 x1002 (x319000 ++ [x7]) x319001) else (none)))
def spec_l06Path.l1 : Nat → Int → Int → Int → List Int → Int → Int → List Int → List (S55) → Option (List Int × (List (S55)) × Int × Int)
  | 0, _, _, _, _, _, _, _, _ => none
  | k + 1, x6, x7, x8, x1000, x1001, x1002, x319000, x319001 => (spec_NeedOf.f x7).bind fun t333 => (if x8 < t333 then ((spec_l04Point.f x1000 x1001 x1002).bind fun bt334 => (if x319001.length < 8796093022208 then (spec_l06Path.l1 k x6 x7 (wrap64 (x8 + 1)) x1000 bt334.2.2.1 bt334.2.2.2 x319000 (x319001 ++ [(⟨bt334.1, bt334.2.1⟩ : S55)])) else (none))) else (spec_l06Path.l0 k (wrap64 (x6 + 1)) x1000 x1001 x1002 x319000 x319001))
end
def spec_l06Path.f (k : Nat) (s0_0 : List Int) (s0_1 : Int) (s0_2 : Int) : Option (List Int × (List (S55)) × Int × Int) := (spec_l01Once.f s0_0 s0_1 s0_2 2).bind fun bt297 => (if bt297.1 = true then ((spec_l01Below.f s0_0 bt297.2.1 bt297.2.2 2400).bind fun bt300 => ((spec_l01Below.f s0_0 bt300.2.1 bt300.2.2 2400).bind fun bt303 => ((spec_l01Below.f s0_0 bt303.2.1 bt303.2.2 1500).bind fun bt306 => ((spec_l01Below.f s0_0 bt306.2.1 bt306.2.2 1500).bind fun bt309 => ((spec_RectPath.f bt300.1 bt303.1 (wrap64 ((wrap64 (bt300.1 + 1)) + bt306.1)) (wrap64 ((wrap64 (bt303.1 + 1)) + bt309.1))).bind fun bt312 => (some (bt312.1, bt312.2, bt309.2.1, bt309.2.2))))))) else (spec_l06Path.l0 k 0 s0_0 bt297.2.1 bt297.2.2 ([] : List Int) ([] : List (S55))))
def spec_l06Path.T18 : Bool × List (List Nat × List Nat) := (true, [([], []), ([0], [0]), ([], []), ([2], [2]), ([3], [3]), ([1, 4, 3], [1, 4]), ([0, 1, 2, 3, 4, 5], []), ([6, 5, 5, 0, 1, 2, 3, 4, 5], [5, 6])])
def spec_l06Path.B18 : List Nat := [0, 1, 0, 4, 12, 31, 63, 127]
theorem spec_l06Path.tab18 : rtab .any (opsOf Tryd.f68 18) = spec_l06Path.T18 := by kernel_rfl
theorem spec_l06Path.bits18 : waitsOk spec_l06Path.T18.2 spec_l06Path.B18 = true := by kernel_rfl
set_option maxHeartbeats 8000000 in
set_option maxRecDepth 100000 in
theorem spec_l06Path.calls (k : Nat) (g : Nat) (s0_0 : List Int) (s0_1 : Int) (s0_2 : Int) (r1 : List Int) (r2 : List (S55)) (r3 : Int) (r4 : Int) (w0 w : World) (hI : IsS92 w0 w g s0_0 s0_1 s0_2) (hB : Below w0.heap.size w0 w) (h : spec_l06Path.f k s0_0 s0_1 s0_2 = some (r1, r2, r3, r4)) :
    Calls Tryd.prog 68 #[.pointer (some ⟨g, 0, none⟩)] w fun e w' => ∃ v0_ v1_ : Value, e = .returned (.agg #[v0_, v1_]) ∧ Kd.R (Kd.int .i64) 3 w' w.heap.size (fun _ => True) v0_ r1 ∧ Kd.R k55 55 w' w.heap.size (fun _ => True) v1_ r2 ∧ IsS92 w0 w' g s0_0 r3 r4 ∧ Below w0.heap.size w0 w' ∧ KeepBut w w' g none := by
 have hu37 := Tryd.underlying37
 have hu101 := Tryd.underlying101
 have HI0 := Aside0.mk hI
 have HK := Aside0.mk (KeepBut.refl w g none)
 have HL := Aside0.mk hB.size
 clear hI
 have HW0 := Aside0.mk hB.size
 have HB := Aside0.mk hB
 clear hB
 have H : ((spec_l01Once.f s0_0 s0_1 s0_2 2).bind fun bt297 => (if bt297.1 = true then ((spec_l01Below.f s0_0 bt297.2.1 bt297.2.2 2400).bind fun bt300 => ((spec_l01Below.f s0_0 bt300.2.1 bt300.2.2 2400).bind fun bt303 => ((spec_l01Below.f s0_0 bt303.2.1 bt303.2.2 1500).bind fun bt306 => ((spec_l01Below.f s0_0 bt306.2.1 bt306.2.2 1500).bind fun bt309 => ((spec_RectPath.f bt300.1 bt303.1 (wrap64 ((wrap64 (bt300.1 + 1)) + bt306.1)) (wrap64 ((wrap64 (bt303.1 + 1)) + bt309.1))).bind fun bt312 => (some (bt312.1, bt312.2, bt309.2.1, bt309.2.2))))))) else (spec_l06Path.l0 k 0 s0_0 bt297.2.1 bt297.2.2 ([] : List Int) ([] : List (S55))))) = some (r1, r2, r3, r4) := h
 clear h
 replace H := Option.bind_eq_some_iff.mp H
 obtain ⟨⟨t297, t298, t299⟩, A20, H⟩ := H
 try dsimp only at H
 have A2 := Aside0.mk A20
 clear A20
 by_cases c3 : t297 = true
 ·subst c3
  have H1 : ((spec_l01Below.f s0_0 t298 t299 2400).bind fun bt300 => ((spec_l01Below.f s0_0 bt300.2.1 bt300.2.2 2400).bind fun bt303 => ((spec_l01Below.f s0_0 bt303.2.1 bt303.2.2 1500).bind fun bt306 => ((spec_l01Below.f s0_0 bt306.2.1 bt306.2.2 1500).bind fun bt309 => ((spec_RectPath.f bt300.1 bt303.1 (wrap64 ((wrap64 (bt300.1 + 1)) + bt306.1)) (wrap64 ((wrap64 (bt303.1 + 1)) + bt309.1))).bind fun bt312 => (some (bt312.1, bt312.2, bt309.2.1, bt309.2.2))))))) = some (r1, r2, r3, r4) := by rw [if_pos rfl] at H; exact H
  clear H
  have H := H1
  clear H1
  replace H := Option.bind_eq_some_iff.mp H
  obtain ⟨⟨t300, t301, t302⟩, A40, H⟩ := H
  try dsimp only at H
  have A4 := Aside0.mk A40
  clear A40
  replace H := Option.bind_eq_some_iff.mp H
  obtain ⟨⟨t303, t304, t305⟩, A50, H⟩ := H
  try dsimp only at H
  have A5 := Aside0.mk A50
  clear A50
  replace H := Option.bind_eq_some_iff.mp H
  obtain ⟨⟨t306, t307, t308⟩, A60, H⟩ := H
  try dsimp only at H
  have A6 := Aside0.mk A60
  clear A60
  replace H := Option.bind_eq_some_iff.mp H
  obtain ⟨⟨t309, t310, t311⟩, A70, H⟩ := H
  try dsimp only at H
  have A7 := Aside0.mk A70
  clear A70
  replace H := Option.bind_eq_some_iff.mp H
  obtain ⟨⟨t312, t315⟩, A80, H⟩ := H
  try dsimp only at H
  have A8 := Aside0.mk A80
  clear A80
  simp only [Option.some.injEq, Prod.mk.injEq] at H
  obtain ⟨rfl, rfl, rfl, rfl⟩ := H
  go_enter Tryd.func68, Tryd.ntmps68
  go_wp2_with (first | ((with_reducible refine gate_dst (N := 2) rfl ?_); refine box_event ?hg (N := 2) ?hd (cs := #[.slice none 0 0, .slice none 0 0]) (t := 37) ?hr ?_; (case hd => rfl); (case hg => rfl); (case hr => first | (go_simp; done) | (go_simp; rfl)); intro gb296 hg w9 hbox hb; replace HB := Aside0.mk (below_step bI hb); have BK296 := Aside0.mk (hbox); have GW296 := Aside0.mk ((by rw [hg]; exact (kz w g) : w.heap.size ≤ gb296)); have GE296 := Aside0.mk ((Nat.le_trans HW0.out (by rw [hg]; exact (kz w g) : w.heap.size ≤ gb296) : w0.heap.size ≤ gb296)); replace HK := Aside0.mk (KeepBut.trans kS (KeepBut.of_below hb g none) (.inl rfl)); have NB0_296 := Aside0.mk ((by rw [hg]; exact Nat.ne_of_lt (IsS92.lt (show IsS92 w0 _ g s0_0 s0_1 s0_2 from iS)) : g ≠ gb296)); have NB296_0 := Aside0.mk ((by rw [hg]; exact Nat.ne_of_gt (IsS92.lt (show IsS92 w0 _ g s0_0 s0_1 s0_2 from iS)) : gb296 ≠ g)); replace HI0 := Aside0.mk (IsS92.below iS hb); clear hb hbox hg) | ((with_reducible refine gate_callee (f := 81) rfl ?_); refine goesL_ (some 10) rfl rfl Tryd.func81 (by kernel_rfl) rfl #[.pointer (some ⟨g, 0, none⟩), .int .i64 2] rfl lm_ ?_; (with_reducible refine (spec_l01Once.calls g s0_0 s0_1 s0_2 2 true t298 t299 w0 _ ?side1 ?side2 A2.out).mono ?_); (case side1 => exact iS); (case side2 => exact bI); rintro e w10 ⟨rfl, hi, hb, hk⟩; refine ⟨_, rfl, ?_⟩; replace BK296 := Aside0.mk (KeepBut.blk hk (bk_ BK296.out) NB296_0.out (by simp)); replace HK := Aside0.mk (KeepBut.trans kS hk (.inl rfl)); replace HB := Aside0.mk (hb); replace HI0 := Aside0.mk (hi); (try clear hb hk hi)) | ((with_reducible refine gate_callee (f := 53) rfl ?_); refine goesL_ (some 12) rfl rfl Tryd.func53 (by kernel_rfl) rfl #[.pointer (some ⟨g, 0, none⟩), .int .i64 2400] rfl lm_ ?_; (with_reducible refine (spec_l01Below.calls g s0_0 t298 t299 2400 t300 t301 t302 w0 _ ?side1 ?side2 A4.out).mono ?_); (case side1 => exact iS); (case side2 => exact bI); rintro e w11 ⟨rfl, hi, hb, hk⟩; refine ⟨_, rfl, ?_⟩; replace BK296 := Aside0.mk (KeepBut.blk hk (bk_ BK296.out) NB296_0.out (by simp)); replace HK := Aside0.mk (KeepBut.trans kS hk (.inl rfl)); replace HB := Aside0.mk (hb); replace HI0 := Aside0.mk (hi); (try clear hb hk hi)) | ((with_reducible refine gate_callee (f := 53) rfl ?_); refine goesL_ (some 14) rfl rfl Tryd.func53 (by kernel_rfl) rfl #[.pointer (some ⟨g, 0, none⟩), .int .i64 2400] rfl lm_ ?_; (with_reducible refine (spec_l01Below.calls g s0_0 t301 t302 2400 t303 t304 t305 w0 _ ?side1 ?side2 A5.out).mono ?_); (case side1 => exact iS); (case side2 => exact bI); rintro e w12 ⟨rfl, hi, hb, hk⟩; refine ⟨_, rfl, ?_⟩; replace BK296 := Aside0.mk (KeepBut.blk hk (bk_ BK296.out) NB296_0.out (by simp)); replace HK := Aside0.mk (KeepBut.trans kS hk (.inl rfl)); replace HB := Aside0.mk (hb); replace HI0 := Aside0.mk (hi); (try clear hb hk hi)) | ((with_reducible refine gate_callee (f := 53) rfl ?_); refine goesL_ (some 20) rfl rfl Tryd.func53 (by kernel_rfl) rfl #[.pointer (some ⟨g, 0, none⟩), .int .i64 1500] rfl lm_ ?_; (with_reducible refine (spec_l01Below.calls g s0_0 t304 t305 1500 t306 t307 t308 w0 _ ?side1 ?side2 A6.out).mono ?_); (case side1 => exact iS); (case side2 => exact bI); rintro e w13 ⟨rfl, hi, hb, hk⟩; refine ⟨_, rfl, ?_⟩; replace BK296 := Aside0.mk (KeepBut.blk hk (bk_ BK296.out) NB296_0.out (by simp)); replace HK := Aside0.mk (KeepBut.trans kS hk (.inl rfl)); replace HB := Aside0.mk (hb); replace HI0 := Aside0.mk (hi); (try clear hb hk hi)) | ((with_reducible refine gate_callee (f := 53) rfl ?_); refine goesL_ (some 25) rfl rfl Tryd.func53 (by kernel_rfl) rfl #[.pointer (some ⟨g, 0, none⟩), .int .i64 1500] rfl lm_ ?_; (with_reducible refine (spec_l01Below.calls g s0_0 t307 t308 1500 t309 t310 t311 w0 _ ?side1 ?side2 A7.out).mono ?_); (case side1 => exact iS); (case side2 => exact bI); rintro e w14 ⟨rfl, hi, hb, hk⟩; refine ⟨_, rfl, ?_⟩; replace BK296 := Aside0.mk (KeepBut.blk hk (bk_ BK296.out) NB296_0.out (by simp)); replace HK := Aside0.mk (KeepBut.trans kS hk (.inl rfl)); replace HB := Aside0.mk (hb); replace HI0 := Aside0.mk (hi); (try clear hb hk hi)) | ((with_reducible refine gate_callee (f := 82) rfl ?_); refine goesL_ (some 28) rfl rfl Tryd.func82 (by kernel_rfl) rfl #[.agg #[.int .i64 t300, .int .i64 t303, .int .i64 (wrap64 ((wrap64 (t300 + 1)) + t306)), .int .i64 (wrap64 ((wrap64 (t303 + 1)) + t309))]] rfl lm_ ?_; (with_reducible refine (spec_RectPath.calls t300 t303 (wrap64 ((wrap64 (t300 + 1)) + t306)) (wrap64 ((wrap64 (t303 + 1)) + t309)) t312 t315 _ A8.out).mono ?_); rintro e w15 ⟨v313, v316, rfl, ho0, ho1, hb⟩; refine ⟨_, rfl, ?_⟩; have HO314 := Aside0.mk (Kd.R_lower ho0 (kz w g)); have HO317 := Aside0.mk (Kd.R_lower ho1 (kz w g)); replace BK296 := Aside0.mk (blk_below (bk_ BK296.out) hb); replace HK := Aside0.mk (KeepBut.trans kS (KeepBut.of_below hb g none) (.inl rfl)); replace HB := Aside0.mk (below_step bI hb); replace HI0 := Aside0.mk (IsS92.below iS hb); (try clear hb ho0 ho1); obtain ⟨Ao16, co16, eo16⟩ := Kd.R_slice HO314.out; subst eo16; have hnb17 := NB296_0.out; have hnc17 := NB0_296.out; have hcz18_0 : w15.cell? ⟨gb296, 0, none⟩ = some (.slice none 0 0) := (blk_cell BK296.out 0).trans rfl; have hcz18_1 : w15.cell? ⟨gb296, 1, none⟩ = some (.slice none 0 0) := (blk_cell BK296.out 1).trans rfl; have hfz18_0 := blk_frozen BK296.out 0; have hfz18_1 := blk_frozen BK296.out 1; obtain ⟨Ao19, co19, eo19⟩ := Kd.R_slice HO317.out; subst eo19))
  refine bodyPost_ret (results_cell_row rfl _ _ gb296 37 #[.slice Ao16 t312.length co16, .slice Ao19 t315.length co19] (0, 0) _ rfl (by refine bk_ ?_; refine blk_put (cs := #[.slice Ao16 t312.length co16, .slice none 0 0]) ?_ 1 _ rfl; refine bk_ ?_; refine blk_put (cs := #[.slice none 0 0, .slice none 0 0]) ?_ 0 _ rfl; exact bk_ BK296.out) Tryd.underlying37 rfl (by kernel_rfl)) rfl ?_
  exact ⟨_, _, by first | rfl | (simp [errW_none, errW_some] <;> rfl) | (simp [*, errW_none, errW_some] <;> rfl), by refine rr_ ?_; exact Kd.R_mono (Kd.R_far (p := ⟨gb296, 1, none⟩) (Kd.R_far (p := ⟨gb296, 0, none⟩) (Kd.R_types HO314.out BK296.out (by decide)) (fun _ hk => hk.2) (.slice Ao16 t312.length co16)) (fun _ hk => hk.2) (.slice Ao19 t315.length co19)) (fun _ hk => trivial), by refine rr_ ?_; exact Kd.R_mono (Kd.R_far (p := ⟨gb296, 1, none⟩) (Kd.R_far (p := ⟨gb296, 0, none⟩) (Kd.R_types HO317.out BK296.out (by decide)) (fun _ hk => hk.2) (.slice Ao16 t312.length co16)) (fun _ hk => hk.2) (.slice Ao19 t315.length co19)) (fun _ hk => trivial), by exact iS, by exact bI, by exact kS⟩
 ·replace c3 := Bool.eq_false_iff.mpr c3
  subst c3
  have H1 : (spec_l06Path.l0 k 0 s0_0 t298 t299 ([] : List Int) ([] : List (S55))) = some (r1, r2, r3, r4) := by rw [if_neg (show ¬ (false = true) by decide)] at H; exact H
  clear H
  have H := H1
  clear H1
  have H' := Aside0.mk H
  clear H
  go_enter Tryd.func68, Tryd.ntmps68
  go_wp2_with (first | ((with_reducible refine gate_dst (N := 2) rfl ?_); refine box_event ?hg (N := 2) ?hd (cs := #[.slice none 0 0, .slice none 0 0]) (t := 37) ?hr ?_; (case hd => rfl); (case hg => rfl); (case hr => first | (go_simp; done) | (go_simp; rfl)); intro gb296 hg w20 hbox hb; replace HB := Aside0.mk (below_step bI hb); have BK296 := Aside0.mk (hbox); have GW296 := Aside0.mk ((by rw [hg]; exact (kz w g) : w.heap.size ≤ gb296)); have GE296 := Aside0.mk ((Nat.le_trans HW0.out (by rw [hg]; exact (kz w g) : w.heap.size ≤ gb296) : w0.heap.size ≤ gb296)); replace HK := Aside0.mk (KeepBut.trans kS (KeepBut.of_below hb g none) (.inl rfl)); have NB0_296 := Aside0.mk ((by rw [hg]; exact Nat.ne_of_lt (IsS92.lt (show IsS92 w0 _ g s0_0 s0_1 s0_2 from iS)) : g ≠ gb296)); have NB296_0 := Aside0.mk ((by rw [hg]; exact Nat.ne_of_gt (IsS92.lt (show IsS92 w0 _ g s0_0 s0_1 s0_2 from iS)) : gb296 ≠ g)); replace HI0 := Aside0.mk (IsS92.below iS hb); clear hb hbox hg) | ((with_reducible refine gate_callee (f := 81) rfl ?_); refine goesL_ (some 10) rfl rfl Tryd.func81 (by kernel_rfl) rfl #[.pointer (some ⟨g, 0, none⟩), .int .i64 2] rfl lm_ ?_; (with_reducible refine (spec_l01Once.calls g s0_0 s0_1 s0_2 2 false t298 t299 w0 _ ?side1 ?side2 A2.out).mono ?_); (case side1 => exact iS); (case side2 => exact bI); rintro e w21 ⟨rfl, hi, hb, hk⟩; refine ⟨_, rfl, ?_⟩; replace BK296 := Aside0.mk (KeepBut.blk hk (bk_ BK296.out) NB296_0.out (by simp)); replace HK := Aside0.mk (KeepBut.trans kS hk (.inl rfl)); replace HB := Aside0.mk (hb); replace HI0 := Aside0.mk (hi); (try clear hb hk hi)) | ((with_reducible refine gate_dst (N := 5) rfl ?_); refine box_event ?hg (N := 5) ?hd (cs := #[.slice none 0 0, .slice none 0 0]) (t := 37) ?hr ?_; (case hd => rfl); (case hg => rfl); (case hr => first | (go_simp; done) | (go_simp; rfl)); intro gb318 hg w22 hbox hb; replace HB := Aside0.mk (below_step bI hb); have BK318 := Aside0.mk (hbox); have GW318 := Aside0.mk ((by rw [hg]; exact (kz w g) : w.heap.size ≤ gb318)); have GE318 := Aside0.mk ((Nat.le_trans HW0.out (by rw [hg]; exact (kz w g) : w.heap.size ≤ gb318) : w0.heap.size ≤ gb318)); replace HK := Aside0.mk (KeepBut.trans kS (KeepBut.of_below hb g none) (.inl rfl)); have NB296_318 := Aside0.mk ((by rw [hg]; exact Nat.ne_of_lt (blk_lt (bk_ BK296.out)) : gb296 ≠ gb318)); have NB318_296 := Aside0.mk ((by rw [hg]; exact Nat.ne_of_gt (blk_lt (bk_ BK296.out)) : gb318 ≠ gb296)); replace BK296 := Aside0.mk (blk_below (bk_ BK296.out) hb); have NB0_318 := Aside0.mk ((by rw [hg]; exact Nat.ne_of_lt (IsS92.lt (show IsS92 w0 _ g s0_0 t298 t299 from iS)) : g ≠ gb318)); have NB318_0 := Aside0.mk ((by rw [hg]; exact Nat.ne_of_gt (IsS92.lt (show IsS92 w0 _ g s0_0 t298 t299 from iS)) : gb318 ≠ g)); replace HI0 := Aside0.mk (IsS92.below iS hb); clear hb hbox hg; have hnb23 := NB318_296.out; have hnc23 := NB296_318.out; have hnb24 := NB318_0.out; have hnc24 := NB0_318.out; have hcz25_0 : w22.cell? ⟨gb318, 0, none⟩ = some (.slice none 0 0) := (blk_cell BK318.out 0).trans rfl; have hcz25_1 : w22.cell? ⟨gb318, 1, none⟩ = some (.slice none 0 0) := (blk_cell BK318.out 1).trans rfl; have hfz25_0 := blk_frozen BK318.out 0; have hfz25_1 := blk_frozen BK318.out 1))
  go_loopg [6] k (fun kq v6 w' => ∃ (x6_1 : Int) (x1001_1 : Int) (x1002_1 : Int) (x319000_1 : List Int) (x319001_1 : List (S55)) (u319000 : Value) (u319001 : Value), v6 = .int .i64 x6_1 ∧ Aside0 (spec_l06Path.l0 kq x6_1 s0_0 x1001_1 x1002_1 x319000_1 x319001_1 = some (r1, r2, r3, r4)) ∧ Aside0 (kq ≤ k) ∧ Aside0 (Kd.R (Kd.int .i64) 3 w' w.heap.size (fun _ => True) u319000 x319000_1) ∧ Aside0 (Kd.R k55 55 w' w.heap.size (fun _ => True) u319001 x319001_1) ∧ Aside0 (w'.heap[gb296]? = some (.cells #[(.slice none 0 0), (.slice none 0 0)] 37 (0, 0))) ∧ Aside0 (w'.heap[gb318]? = some (.cells #[u319000, u319001] 37 (0, 0))) ∧ Aside0 (IsS92 w0 w' g s0_0 x1001_1 x1002_1) ∧ Aside0 (KeepBut w w' g none) ∧ Aside0 (Below w0.heap.size w0 w'))
  case atStart => exact ⟨(0), (t298), (t299), (([] : List Int)), (([] : List (S55))), (.slice none 0 0), (.slice none 0 0), (by first | rfl | (simp; done) | (simp [*]; done)), H', ⟨Nat.le_refl _⟩, ⟨by first | exact Kd.R_nil _ _ _ _ _ | exact Kd.N_nil _ _ _ _ _ | exact Kd.V_nil _ _ _ _ _ | exact Kd.Q_nil _ _ _ _ _ | exact Kd.S_nil _ _ _ _ _⟩, ⟨by first | exact Kd.R_nil _ _ _ _ _ | exact Kd.N_nil _ _ _ _ _ | exact Kd.V_nil _ _ _ _ _ | exact Kd.Q_nil _ _ _ _ _ | exact Kd.S_nil _ _ _ _ _⟩, ⟨bf_ BK296.out⟩, ⟨by refine bk_ ?_; refine blk_put (cs := #[.slice none 0 0, .slice none 0 0]) ?_ 1 _ rfl; refine bk_ ?_; refine blk_put (cs := #[.slice none 0 0, .slice none 0 0]) ?_ 0 _ rfl; exact bk_ BK318.out⟩, ⟨iS⟩, ⟨kS⟩, ⟨bI⟩⟩
  case round =>
   clear H'
   try clear c1
   try clear c2
   try clear p2
   try clear c3
   try clear c5
   try clear c6
   try clear p6
   try clear c8
   try clear c17
   try clear c23
   try clear c24
   try clear hcz18_0
   try clear hcz18_1
   try clear hcz25_0
   try clear hcz25_1
   try clear hfz18_0
   try clear hfz18_1
   try clear hfz25_0
   try clear hfz25_1
   obtain ⟨x6_1, x1001_1, x1002_1, x319000_1, x319001_1, u319000, u319001, rfl, HA, HK1, HO_319000, HO_319001, BK296, BK318, HI0, HK, HB⟩ := hrel
   cases gk with
   | zero => exact absurd HA.out (by simp [spec_l06Path.l0])
   | succ k1 =>
    have H := HA.out
    clear HA
    simp only [spec_l06Path.l0] at H
    replace H := Option.bind_eq_some_iff.mp H
    obtain ⟨⟨t319, t320, t321⟩, A260, H⟩ := H
    try dsimp only at H
    have A26 := Aside0.mk A260
    clear A260
    by_cases c27 : x6_1 < (wrap64 (1 + t319))
    ·rw [if_pos c27] at H
     have c27b0 : decide (x6_1 < (wrap64 (1 + t319))) = true := decide_eq_true c27
     clear c27
     obtain ⟨y322, hy322⟩ : ∃ y_ : List Int, y_ = (([2, 2, 2, 3, 4, 5, 1] : List Int)) := ⟨_, rfl⟩
     replace H : ((spec_l01PickInt.f s0_0 t320 t321 y322).bind fun bt325 => (if x6_1 = 0 then (spec_l06Path.j1 k1 x6_1 bt325.1 true s0_0 bt325.2.1 bt325.2.2 x319000_1 x319001_1) else (if 0 ≤ (wrap64 (x6_1 - 1)) then (if (wrap64 (x6_1 - 1)) < (x319000_1.length : Int) then (spec_l06Path.j1 k1 x6_1 bt325.1 ((rd x319000_1 (wrap64 (x6_1 - 1))) == 5) s0_0 bt325.2.1 bt325.2.2 x319000_1 x319001_1) else (none)) else (none)))) = some (r1, r2, r3, r4) := by first | (rw [hy322]; with_reducible exact H) | (have H2_ := (Option.bind_some _ _).symm.trans H; rw [hy322]; with_reducible exact H2_) | (have H2_ := (Option.bind_some _ _).symm.trans H; with_reducible exact H2_) | with_reducible exact H | (rw [hy322]; exact H) | exact H
     have Ny322 := Aside0.mk hy322
     clear hy322
     replace H := Option.bind_eq_some_iff.mp H
     obtain ⟨⟨t325, t326, t327⟩, A280, H⟩ := H
     try dsimp only at H
     have A28 := Aside0.mk A280
     clear A280
     have HC29 := Aside0.mk H
     clear H
     go_upto_region 10 with (first | ((with_reducible refine gate_callee (f := 53) rfl ?_); refine goesL_ (some 32) rfl rfl Tryd.func53 (by kernel_rfl) rfl #[.pointer (some ⟨g, 0, none⟩), .int .i64 6] rfl lm_ ?_; (with_reducible refine (spec_l01Below.calls g s0_0 x1001_1 x1002_1 6 t319 t320 t321 w0 _ ?side1 ?side2 A26.out).mono ?_); (case side1 => exact iS); (case side2 => exact bI); rintro e w30 ⟨rfl, hi, hb, hk⟩; refine ⟨_, rfl, ?_⟩; replace HO_319000 := Aside0.mk (Kd.R_mono (Kd.R_keep (IsS92.apart (show IsS92 w0 _ g s0_0 x1001_1 x1002_1 from iS) (rr_ HO_319000.out) (by decide)) hk (fun _ h => h.2)) (fun _ h => h.1)); replace HO_319001 := Aside0.mk (Kd.R_mono (Kd.R_keep (IsS92.apart (show IsS92 w0 _ g s0_0 x1001_1 x1002_1 from iS) (rr_ HO_319001.out) (by decide)) hk (fun _ h => h.2)) (fun _ h => h.1)); replace BK296 := Aside0.mk (KeepBut.blk hk (bk_ BK296.out) NB296_0.out (by simp)); replace BK318 := Aside0.mk (KeepBut.blk hk (bk_ BK318.out) NB318_0.out (by simp)); replace HK := Aside0.mk (KeepBut.trans kS hk (.inl rfl)); replace HB := Aside0.mk (hb); replace HI0 := Aside0.mk (hi); (try clear hb hk hi)) | ((with_reducible refine gate_dst (N := 38) rfl ?_); refine Kd.R_lit (Kd.int .i64) _ 3 ?hg (N := 38) ?hd (xs := ([2, 2, 2, 3, 4, 5, 1] : List Int)) (inner := [.int .i64 2, .int .i64 2, .int .i64 2, .int .i64 3, .int .i64 4, .int .i64 5, .int .i64 1]) (ok := fun _ => True) (okp := fun _ => True) ?hr ?hp (fun _ hk => hk) trivial (Below.refl _ _) (Nat.le_refl _) (by simp) ?_; (case hd => rfl); (case hg => rfl); (case hr => first | (go_simp; done) | (go_simp; rfl)); (case hp => exact (Reps.one (show Kd.M (Kd.int .i64) _ _ _ 2 [.int .i64 2] from rfl) (Reps.one (show Kd.M (Kd.int .i64) _ _ _ 2 [.int .i64 2] from rfl) (Reps.one (show Kd.M (Kd.int .i64) _ _ _ 2 [.int .i64 2] from rfl) (Reps.one (show Kd.M (Kd.int .i64) _ _ _ 3 [.int .i64 3] from rfl) (Reps.one (show Kd.M (Kd.int .i64) _ _ _ 4 [.int .i64 4] from rfl) (Reps.one (show Kd.M (Kd.int .i64) _ _ _ 5 [.int .i64 5] from rfl) (Reps.one (show Kd.M (Kd.int .i64) _ _ _ 1 [.int .i64 1] from rfl) (Reps.none _ _))))))))); intro v323 w31 ho32 hb hg_ hnew_; clear hg_ hnew_; (first | rw [← Ny322.out] at ho32 | (simp only [Int.reduceToNat] at ho32; rw [← Ny322.out] at ho32)); replace HO_319001 := Aside0.mk (Kd.R_below (rr_ HO_319001.out) hb); have HO324 := Aside0.mk (Kd.R_lower (Kd.R_new' ho32 (Kd.R_lt (rr_ HO_319000.out))) (kz w g)); replace HO_319000 := Aside0.mk (Kd.R_elder' (rr_ HO_319000.out) (Kd.R_base ho32) hb); replace BK296 := Aside0.mk (blk_below (bk_ BK296.out) hb); replace BK318 := Aside0.mk (blk_below (bk_ BK318.out) hb); replace HK := Aside0.mk (KeepBut.trans kS (KeepBut.of_below hb g none) (.inl rfl)); replace HB := Aside0.mk (below_step bI hb); replace HI0 := Aside0.mk (IsS92.below iS hb); clear hb ho32; obtain ⟨Ao33, co33, eo33⟩ := Kd.R_slice HO324.out; subst eo33) | ((with_reducible refine gate_callee (f := 83) rfl ?_); refine goesL_ (some 39) rfl rfl Tryd.func83 (by kernel_rfl) rfl #[.pointer (some ⟨g, 0, none⟩), .slice Ao33 y322.length co33] rfl lm_ ?_; (with_reducible refine (spec_l01PickInt.calls g s0_0 t320 t321 _ _ y322 t325 t326 t327 w0 _ ?side1 ?side2 ?side3 ?side4 ?side5 A28.out).mono ?_); (case side1 => exact iS); (case side2 => exact bI); (case side3 => exact cc_ (Kd.R_reads' HO324.out).2.2); (case side4 => exact (Kd.R_reads' HO324.out).2.1); (case side5 => exact far_slice (IsS92.own_ne HI0.out HO324.out (by decide))); rintro e w34 ⟨rfl, hi, hb, hk⟩; refine ⟨_, rfl, ?_⟩; replace HO_319000 := Aside0.mk (Kd.R_mono (Kd.R_keep (IsS92.apart (show IsS92 w0 _ g s0_0 t320 t321 from iS) (rr_ HO_319000.out) (by decide)) hk (fun _ h => h.2)) (fun _ h => h.1)); replace HO_319001 := Aside0.mk (Kd.R_mono (Kd.R_keep (IsS92.apart (show IsS92 w0 _ g s0_0 t320 t321 from iS) (rr_ HO_319001.out) (by decide)) hk (fun _ h => h.2)) (fun _ h => h.1)); replace BK296 := Aside0.mk (KeepBut.blk hk (bk_ BK296.out) NB296_0.out (by simp)); replace BK318 := Aside0.mk (KeepBut.blk hk (bk_ BK318.out) NB318_0.out (by simp)); replace HO324 := Aside0.mk (Kd.R_mono (Kd.R_keep (IsS92.apart (show IsS92 w0 _ g s0_0 t320 t321 from iS) (rr_ HO324.out) (by decide)) hk (fun _ h => h.2)) (fun _ h => h.1)); replace HK := Aside0.mk (KeepBut.trans kS hk (.inl rfl)); replace HB := Aside0.mk (hb); replace HI0 := Aside0.mk (hi); (try clear hb hk hi)))
     (try simp only [PQ])
     go_cut [50] (fun v50 wc => ∃ (kq : Nat) (x50_28 : Bool), v50 = .bool x50_28 ∧ Aside0 (spec_l06Path.j1 kq x6_1 t325 x50_28 s0_0 t326 t327 x319000_1 x319001_1 = some (r1, r2, r3, r4)) ∧ Aside0 (kq ≤ k1) ∧ Aside0 (Kd.R (Kd.int .i64) 3 wc w.heap.size (fun _ => True) u319000 x319000_1) ∧ Aside0 (Kd.R k55 55 wc w.heap.size (fun _ => True) u319001 x319001_1) ∧ Aside0 (wc.heap[gb296]? = some (.cells #[(.slice none 0 0), (.slice none 0 0)] 37 (0, 0))) ∧ Aside0 (wc.heap[gb318]? = some (.cells #[u319000, u319001] 37 (0, 0))) ∧ Aside0 (IsS92 w0 wc g s0_0 t326 t327) ∧ Aside0 (KeepBut w wc g none) ∧ Aside0 (Below w0.heap.size w0 wc))
     case first =>
      have H := HC29.out
      clear HC29
      by_cases c35 : x6_1 = 0
      ·rw [if_pos c35] at H
       have c35b0 : (x6_1 == 0) = true := beq_iff_eq.mpr c35
       have c35b1 : (x6_1 != 0) = false := bne_eq_false_iff_eq.mpr c35
       clear c35
       (first | rw [c35b0] | (simp only [i64_w, i32_w]; rw [c35b0]) | skip)
       have H' := Aside0.mk H
       clear H
       go_wp2
       go_meet
       case rel => exact ⟨_, (true), (by first | rfl | (simp; done) | (simp [*]; done)), H', ⟨by have := HK1.out; first | omega | exact Nat.le_refl _⟩, ⟨by refine rr_ ?_; exact Kd.R_mono HO_319000.out (fun _ hk => trivial)⟩, ⟨rr_ HO_319001.out⟩, ⟨bk_ BK296.out⟩, ⟨bk_ BK318.out⟩, ⟨iS⟩, ⟨kS⟩, ⟨bI⟩⟩
      ·rw [if_neg c35] at H
       have c35b0 : (x6_1 == 0) = false := beq_eq_false_iff_ne.mpr c35
       have c35b1 : (x6_1 != 0) = true := bne_iff_ne.mpr c35
       (first | rw [c35b0] | (simp only [i64_w, i32_w]; rw [c35b0]) | skip)
       obtain ⟨ji36, hji36⟩ : ∃ j_ : Int, (wrap64 (x6_1 - 1)) = j_ := ⟨_, rfl⟩
       replace H : (if 0 ≤ (ji36) then (if (ji36) < (x319000_1.length : Int) then (spec_l06Path.j1 k1 x6_1 t325 ((rd x319000_1 (ji36)) == 5) s0_0 t326 t327 x319000_1 x319001_1) else (none)) else (none)) = some (r1, r2, r3, r4) := by first | (rw [hji36] at H; exact H) | (simp only [hji36] at H ⊢; exact H)
       have hji36w : (IntKind.i64.wrap (x6_1 - 1)) = ji36 := (i64_w _).trans hji36
       by_cases c37 : 0 ≤ (ji36)
       ·rw [if_pos c37] at H
        have c37b0 : decide (0 ≤ (ji36)) = true := decide_eq_true c37
        clear c37
        by_cases c38 : (ji36) < (x319000_1.length : Int)
        ·rw [if_pos c38] at H
         have c38b0 : decide ((ji36) < (x319000_1.length : Int)) = true := decide_eq_true c38
         clear c38
         have H' := Aside0.mk H
         clear H
         have hnb39 := NB318_296.out
         have hnc39 := NB296_318.out
         have hnb40 := NB318_0.out
         have hnc40 := NB0_318.out
         have hcz41_0 : w34.cell? ⟨gb318, 0, none⟩ = some (u319000) := (blk_cell BK318.out 0).trans rfl
         have hcz41_1 : w34.cell? ⟨gb318, 1, none⟩ = some (u319001) := (blk_cell BK318.out 1).trans rfl
         have hfz41_0 := blk_frozen BK318.out 0
         have hfz41_1 := blk_frozen BK318.out 1
         obtain ⟨Ao42, co42, eo42⟩ := Kd.R_slice HO_319000.out
         subst eo42
         have p328 : 0 ≤ ((ji36) : Int) := of_decide_eq_true as_
         have q328 : (ji36) < (x319000_1.length : Int) := of_decide_eq_true as_
         obtain ⟨ad328, e328, hx328_0⟩ := Kd.at_int (Kd.R_reads' HO_319000.out).2.2 (ji36) p328 q328
         cases e328
         replace p328 := eq_true p328
         replace q328 := eq_true q328
         go_wp2
         go_meet
         case rel => exact ⟨_, (((rd x319000_1 (ji36)) == 5)), (by first | rfl | (simp; done) | (simp only [← hji36] <;> (first | rfl | simp)) | (simp [*]; done)), H', ⟨by have := HK1.out; first | omega | exact Nat.le_refl _⟩, ⟨by refine rr_ ?_; exact Kd.R_mono HO_319000.out (fun _ hk => trivial)⟩, ⟨rr_ HO_319001.out⟩, ⟨bk_ BK296.out⟩, ⟨bk_ BK318.out⟩, ⟨iS⟩, ⟨kS⟩, ⟨bI⟩⟩
        ·rw [if_neg c38] at H
         exact absurd H (by simp)
       ·rw [if_neg c37] at H
        exact absurd H (by simp)
     case rest =>
      clear HC29
      try clear c1
      try clear c2
      try clear p2
      try clear c3
      try clear p3
      try clear q3
      try clear hx3
      try clear c4
      try clear c5
      try clear c6
      try clear p6
      try clear c8
      try clear c17
      try clear c23
      try clear c24
      try clear c27
      try clear c27b0
      try clear p32
      try clear q32
      try clear hx32
      try clear c35
      try clear c35b0
      try clear c35b1
      try clear c37
      try clear c37b0
      try clear c38
      try clear c38b0
      try clear c39
      try clear c40
      try clear hcz18_0
      try clear hcz18_1
      try clear hcz25_0
      try clear hcz25_1
      try clear hcz41_0
      try clear hcz41_1
      try clear hfz18_0
      try clear hfz18_1
      try clear hfz25_0
      try clear hfz25_1
      try clear hfz41_0
      try clear hfz41_1
      try clear hx328_0
      try clear p2
      try clear p328
      try clear p6
      try clear q328
      obtain ⟨kq, x50_28, rfl, HA, HJ28, HO_319000, HO_319001, BK296, BK318, HI0, HK, HB⟩ := hcut
      cases kq with
      | zero => exact absurd HA.out (by simp [spec_l06Path.j1])
      | succ kj28 =>
       have H := HA.out
       clear HA
       simp only [spec_l06Path.j1] at H
       have HC43 := Aside0.mk H
       clear H
       go_upto_if 50 with (fail)
       go_cut [7] (fun v7 wc => ∃ (kq : Nat) (x7_42 : Int), v7 = .int .i64 x7_42 ∧ Aside0 (spec_l06Path.j2 kq x6_1 x7_42 s0_0 t326 t327 x319000_1 x319001_1 = some (r1, r2, r3, r4)) ∧ Aside0 (kq ≤ kj28) ∧ Aside0 (Kd.R (Kd.int .i64) 3 wc w.heap.size (fun _ => True) u319000 x319000_1) ∧ Aside0 (Kd.R k55 55 wc w.heap.size (fun _ => True) u319001 x319001_1) ∧ Aside0 (wc.heap[gb296]? = some (.cells #[(.slice none 0 0), (.slice none 0 0)] 37 (0, 0))) ∧ Aside0 (wc.heap[gb318]? = some (.cells #[u319000, u319001] 37 (0, 0))) ∧ Aside0 (IsS92 w0 wc g s0_0 t326 t327) ∧ Aside0 (KeepBut w wc g none) ∧ Aside0 (Below w0.heap.size w0 wc))
       case first =>
        have H := HC43.out
        clear HC43
        by_cases c44 : x50_28 = true
        ·subst c44
         have H1 : (spec_l06Path.j2 kj28 x6_1 1 s0_0 t326 t327 x319000_1 x319001_1) = some (r1, r2, r3, r4) := by rw [if_pos rfl] at H; exact H
         clear H
         have H := H1
         clear H1
         have H' := Aside0.mk H
         clear H
         go_wp2
         go_meet
         case rel => exact ⟨_, (1), (by first | rfl | (simp; done) | (simp [*]; done)), H', ⟨by have := HK1.out; have := HJ28.out; first | omega | exact Nat.le_refl _⟩, ⟨rr_ HO_319000.out⟩, ⟨rr_ HO_319001.out⟩, ⟨bk_ BK296.out⟩, ⟨bk_ BK318.out⟩, ⟨iS⟩, ⟨kS⟩, ⟨bI⟩⟩
        ·replace c44 := Bool.eq_false_iff.mpr c44
         subst c44
         have H1 : (spec_l06Path.j2 kj28 x6_1 t325 s0_0 t326 t327 x319000_1 x319001_1) = some (r1, r2, r3, r4) := by rw [if_neg (show ¬ (false = true) by decide)] at H; exact H
         clear H
         have H := H1
         clear H1
         have H' := Aside0.mk H
         clear H
         go_wp2
         go_meet
         case rel => exact ⟨_, (t325), (by first | rfl | (simp; done) | (simp [*]; done)), H', ⟨by have := HK1.out; have := HJ28.out; first | omega | exact Nat.le_refl _⟩, ⟨rr_ HO_319000.out⟩, ⟨rr_ HO_319001.out⟩, ⟨bk_ BK296.out⟩, ⟨bk_ BK318.out⟩, ⟨iS⟩, ⟨kS⟩, ⟨bI⟩⟩
       case rest =>
        clear HC43
        try clear c1
        try clear c2
        try clear p2
        try clear c3
        try clear p3
        try clear q3
        try clear hx3
        try clear c4
        try clear c5
        try clear c6
        try clear p6
        try clear c8
        try clear c17
        try clear c23
        try clear c24
        try clear c27
        try clear c27b0
        try clear p32
        try clear q32
        try clear hx32
        try clear c35
        try clear c35b0
        try clear c35b1
        try clear c37
        try clear c37b0
        try clear c38
        try clear c38b0
        try clear c39
        try clear c40
        try clear c44
        try clear hcz18_0
        try clear hcz18_1
        try clear hcz25_0
        try clear hcz25_1
        try clear hcz41_0
        try clear hcz41_1
        try clear hfz18_0
        try clear hfz18_1
        try clear hfz25_0
        try clear hfz25_1
        try clear hfz41_0
        try clear hfz41_1
        try clear hx328_0
        try clear p2
        try clear p3
        try clear p32
        try clear p328
        try clear p6
        try clear q3
        try clear q32
        try clear q328
        obtain ⟨kq, x7_42, rfl, HA, HJ42, HO_319000, HO_319001, BK296, BK318, HI0, HK, HB⟩ := hcut
        cases kq with
        | zero => exact absurd HA.out (by simp [spec_l06Path.j2])
        | succ kj42 =>
         have H := HA.out
         clear HA
         simp only [spec_l06Path.j2] at H
         replace H := Option.bind_eq_some_iff.mp H
         obtain ⟨t329, A450, H⟩ := H
         try dsimp only at H
         have A45 := Aside0.mk A450
         clear A450
         by_cases c46 : (wrap64 ((x319001_1.length : Int) + t329)) > 24
         ·rw [if_pos c46] at H
          have c46b0 : decide (24 < (wrap64 ((x319001_1.length : Int) + t329))) = true := decide_eq_true c46
          clear c46
          simp only [Option.some.injEq, Prod.mk.injEq] at H
          obtain ⟨rfl, rfl, rfl, rfl⟩ := H
          try go_wp2
          replace HO_319000 := Aside0.mk (Kd.R_drew HO_319000.out)
          replace HO_319001 := Aside0.mk (Kd.R_drew HO_319001.out)
          replace BK296 := Aside0.mk (blk_drew BK296.out)
          replace BK318 := Aside0.mk (blk_drew BK318.out)
          replace HI0 := Aside0.mk (IsS92.drew HI0.out)
          replace HK := Aside0.mk (keep_drew HK.out)
          replace HB := Aside0.mk (below_drew1 HB.out)
          obtain ⟨Ao48, co48, eo48⟩ := Kd.R_slice HO_319001.out
          (first | subst eo48 | (injection eo48 with f1_ f2_ f3_; have f4_ := f1_.symm; have f5_ := f3_.symm; clear f1_ f2_ f3_; subst f4_; subst f5_))
          refine start_ (n := 7) (S := fun w' => w'.cell? ⟨gb318, 0, none⟩ = some (u319000) ∧ w'.cell? ⟨gb318, 1, none⟩ = some (.slice Ao48 x319001_1.length co48)) (ds := []) #[F,F,F,F,F,F,F] (by kernel_rfl) rfl rfl ⟨(blk_cell BK318.out 0).trans rfl, (blk_cell BK318.out 1).trans rfl⟩ (fun hHeld => ?_)
          generalize wc.drew = w47 at HO_319000 HO_319001 BK296 BK318 HI0 HK HB hHeld ⊢
          refine pure_ (i := 0) (N := some 51) (v := ?_) (a' := ?_) #[T,F,F,F,F,F,F] rfl rfl (by kernel_rfl) (fun _ _ _ h => h) (Or.inl ⟨by rfl, ?_⟩) ?_ ?_; rotate_left
          ·intro w'; go_simp; with_reducible rfl
          rotate_left
          ·simp only [PS]; rfl
          refine pure_ (i := 3) (N := some 54) (v := ?_) (a' := ?_) #[T,F,F,T,F,F,F] rfl rfl (by kernel_rfl) (fun _ _ _ h => h) (Or.inl ⟨by rfl, ?_⟩) ?_ ?_; rotate_left
          ·intro w'; go_simp; with_reducible rfl
          rotate_left
          ·simp only [PS]; rfl
          refine take_ (i := 1) (N := some 52) (v := ?_) (a' := ?_) #[T,T,F,T,F,F,F] rfl rfl (by kernel_rfl) (fun _ _ _ h => h) (Or.inl ⟨by rfl, ?_⟩) hHeld ?_ ?_; rotate_left
          ·rintro w' ⟨s0, s1⟩; go_simp; with_reducible rfl
          rotate_left
          ·simp only [PS]; rfl
          refine pure_ (i := 2) (N := some 53) (v := ?_) (a' := ?_) #[T,T,T,T,F,F,F] rfl rfl (by kernel_rfl) (fun _ _ _ h => h) (Or.inl ⟨by rfl, ?_⟩) ?_ ?_; rotate_left
          ·intro w'; go_simp; with_reducible rfl
          rotate_left
          ·simp only [PS]; rfl
          refine one_ (i := 4) (N := some 55) #[T,T,T,T,T,F,F] rfl rfl (by kernel_rfl) (by decide) (fun K hK => ?_)
          refine goes_ Tryd.func32 (by kernel_rfl) rfl #[.int .i64 x7_42] (by rfl) rfl rfl lm_ ?_
          with_reducible refine (spec_NeedOf.calls x7_42 t329 _ A45.out).mono ?_
          rintro e w49 ⟨rfl, hb⟩
          refine ⟨_, rfl, ?_⟩
          replace HO_319000 := Aside0.mk (Kd.R_below (rr_ HO_319000.out) hb)
          replace HO_319001 := Aside0.mk (Kd.R_below (rr_ HO_319001.out) hb)
          replace BK296 := Aside0.mk (blk_below (bk_ BK296.out) hb)
          replace BK318 := Aside0.mk (blk_below (bk_ BK318.out) hb)
          replace HK := Aside0.mk (KeepBut.trans kS (KeepBut.of_below hb g none) (.inl rfl))
          replace HB := Aside0.mk (below_step bI hb)
          replace HI0 := Aside0.mk (IsS92.below iS hb)
          (try clear hb); (try clear hb2); (try clear hk); (try clear hi)
          refine hK.out _ _ ⟨(blk_cell BK318.out 0).trans rfl, (blk_cell BK318.out 1).trans rfl⟩ (fun hHeld => ?_)
          clear hK K
          refine norm_ (a' := ?_) ?_ ?_; rotate_left
          ·show Act.put _ (some 55) _ = _
           simp only [PS]
           rfl
          refine pure_ (i := 5) (N := some 56) (v := ?_) (a' := ?_) #[T,T,T,T,T,T,F] rfl rfl (by kernel_rfl) (fun _ _ _ h => h) (Or.inl ⟨by rfl, ?_⟩) ?_ ?_; rotate_left
          ·intro w'; go_simp; with_reducible rfl
          rotate_left
          ·simp only [PS]; rfl
          refine pure_ (i := 6) (N := some 57) (v := ?_) (a' := ?_) #[T,T,T,T,T,T,T] rfl rfl (by kernel_rfl) (fun _ _ _ h => h) (Or.inl ⟨by rfl, ?_⟩) ?_ ?_; rotate_left
          ·intro w'; go_simp; with_reducible rfl
          rotate_left
          ·simp only [PS]; rfl
          refine done_ (by kernel_rfl) ?_
          have hnb50 := NB318_296.out
          have hnc50 := NB296_318.out
          have hnb51 := NB318_0.out
          have hnc51 := NB0_318.out
          have hcz52_0 : w49.cell? ⟨gb318, 0, none⟩ = some (u319000) := (blk_cell BK318.out 0).trans rfl
          have hcz52_1 : w49.cell? ⟨gb318, 1, none⟩ = some (.slice Ao48 x319001_1.length co48) := (blk_cell BK318.out 1).trans rfl
          have hfz52_0 := blk_frozen BK318.out 0
          have hfz52_1 := blk_frozen BK318.out 1
          obtain ⟨Ao53, co53, eo53⟩ := Kd.R_slice HO_319000.out
          subst eo53
          have hnb54 := NB296_0.out
          have hnc54 := NB0_296.out
          have hcz55_0 : w49.cell? ⟨gb296, 0, none⟩ = some (.slice none 0 0) := (blk_cell BK296.out 0).trans rfl
          have hcz55_1 : w49.cell? ⟨gb296, 1, none⟩ = some (.slice none 0 0) := (blk_cell BK296.out 1).trans rfl
          have hfz55_0 := blk_frozen BK296.out 0
          have hfz55_1 := blk_frozen BK296.out 1
          try go_wp2
          refine bodyPost_ret (results_cell_row rfl _ _ gb296 37 #[.slice Ao53 x319000_1.length co53, .slice Ao48 x319001_1.length co48] (0, 0) _ rfl (by refine bk_ ?_; refine blk_put (cs := #[.slice Ao53 x319000_1.length co53, .slice none 0 0]) ?_ 1 _ rfl; refine bk_ ?_; refine blk_put (cs := #[.slice none 0 0, .slice none 0 0]) ?_ 0 _ rfl; exact bk_ BK296.out) Tryd.underlying37 rfl (by kernel_rfl)) rfl ?_
          exact ⟨_, _, by first | rfl | (simp [errW_none, errW_some] <;> rfl) | (simp [*, errW_none, errW_some] <;> rfl), by refine rr_ ?_; exact Kd.R_mono (Kd.R_far (p := ⟨gb296, 1, none⟩) (Kd.R_far (p := ⟨gb296, 0, none⟩) (Kd.R_types HO_319000.out BK296.out (by decide)) (fun _ hk => hk.2) (.slice Ao53 x319000_1.length co53)) (fun _ hk => hk.2) (.slice Ao48 x319001_1.length co48)) (fun _ hk => trivial), by refine rr_ ?_; exact Kd.R_mono (Kd.R_far (p := ⟨gb296, 1, none⟩) (Kd.R_far (p := ⟨gb296, 0, none⟩) (Kd.R_types HO_319001.out BK296.out (by decide)) (fun _ hk => hk.2) (.slice Ao53 x319000_1.length co53)) (fun _ hk => hk.2) (.slice Ao48 x319001_1.length co48)) (fun _ hk => trivial), by exact iS, by exact bI, by exact kS⟩
         ·rw [if_neg c46] at H
          have c46b0 : decide (24 < (wrap64 ((x319001_1.length : Int) + t329))) = false := decide_eq_false c46
          clear c46
          by_cases c56 : x319000_1.length < 17592186044416
          ·rw [if_pos c56] at H
           have LMc56 := Aside0.mk c56
           clear c56
           obtain ⟨y330, hy330⟩ : ∃ y_ : List Int, y_ = (x319000_1 ++ [x7_42]) := ⟨_, rfl⟩
           replace H : (spec_l06Path.l1 kj42 x6_1 x7_42 0 s0_0 t326 t327 y330 x319001_1) = some (r1, r2, r3, r4) := by first | (rw [hy330]; with_reducible exact H) | (have H2_ := (Option.bind_some _ _).symm.trans H; rw [hy330]; with_reducible exact H2_) | (have H2_ := (Option.bind_some _ _).symm.trans H; with_reducible exact H2_) | with_reducible exact H | (rw [hy330]; exact H) | exact H
           have Ny330 := Aside0.mk hy330
           clear hy330
           have H' := Aside0.mk H
           clear H
           try go_wp2
           replace HO_319000 := Aside0.mk (Kd.R_drew HO_319000.out)
           replace HO_319001 := Aside0.mk (Kd.R_drew HO_319001.out)
           replace BK296 := Aside0.mk (blk_drew BK296.out)
           replace BK318 := Aside0.mk (blk_drew BK318.out)
           replace HI0 := Aside0.mk (IsS92.drew HI0.out)
           replace HK := Aside0.mk (keep_drew HK.out)
           replace HB := Aside0.mk (below_drew1 HB.out)
           obtain ⟨Ao58, co58, eo58⟩ := Kd.R_slice HO_319001.out
           (first | subst eo58 | (injection eo58 with f1_ f2_ f3_; have f4_ := f1_.symm; have f5_ := f3_.symm; clear f1_ f2_ f3_; subst f4_; subst f5_))
           refine start_ (n := 7) (S := fun w' => w'.cell? ⟨gb318, 0, none⟩ = some (u319000) ∧ w'.cell? ⟨gb318, 1, none⟩ = some (.slice Ao58 x319001_1.length co58)) (ds := []) #[F,F,F,F,F,F,F] (by kernel_rfl) rfl rfl ⟨(blk_cell BK318.out 0).trans rfl, (blk_cell BK318.out 1).trans rfl⟩ (fun hHeld => ?_)
           generalize wc.drew = w57 at HO_319000 HO_319001 BK296 BK318 HI0 HK HB hHeld ⊢
           refine pure_ (i := 0) (N := some 51) (v := ?_) (a' := ?_) #[T,F,F,F,F,F,F] rfl rfl (by kernel_rfl) (fun _ _ _ h => h) (Or.inl ⟨by rfl, ?_⟩) ?_ ?_; rotate_left
           ·intro w'; go_simp; with_reducible rfl
           rotate_left
           ·simp only [PS]; rfl
           refine pure_ (i := 3) (N := some 54) (v := ?_) (a' := ?_) #[T,F,F,T,F,F,F] rfl rfl (by kernel_rfl) (fun _ _ _ h => h) (Or.inl ⟨by rfl, ?_⟩) ?_ ?_; rotate_left
           ·intro w'; go_simp; with_reducible rfl
           rotate_left
           ·simp only [PS]; rfl
           refine take_ (i := 1) (N := some 52) (v := ?_) (a' := ?_) #[T,T,F,T,F,F,F] rfl rfl (by kernel_rfl) (fun _ _ _ h => h) (Or.inl ⟨by rfl, ?_⟩) hHeld ?_ ?_; rotate_left
           ·rintro w' ⟨s0, s1⟩; go_simp; with_reducible rfl
           rotate_left
           ·simp only [PS]; rfl
           refine pure_ (i := 2) (N := some 53) (v := ?_) (a' := ?_) #[T,T,T,T,F,F,F] rfl rfl (by kernel_rfl) (fun _ _ _ h => h) (Or.inl ⟨by rfl, ?_⟩) ?_ ?_; rotate_left
           ·intro w'; go_simp; with_reducible rfl
           rotate_left
           ·simp only [PS]; rfl
           refine one_ (i := 4) (N := some 55) #[T,T,T,T,T,F,F] rfl rfl (by kernel_rfl) (by decide) (fun K hK => ?_)
           refine goes_ Tryd.func32 (by kernel_rfl) rfl #[.int .i64 x7_42] (by rfl) rfl rfl lm_ ?_
           with_reducible refine (spec_NeedOf.calls x7_42 t329 _ A45.out).mono ?_
           rintro e w59 ⟨rfl, hb⟩
           refine ⟨_, rfl, ?_⟩
           replace HO_319000 := Aside0.mk (Kd.R_below (rr_ HO_319000.out) hb)
           replace HO_319001 := Aside0.mk (Kd.R_below (rr_ HO_319001.out) hb)
           replace BK296 := Aside0.mk (blk_below (bk_ BK296.out) hb)
           replace BK318 := Aside0.mk (blk_below (bk_ BK318.out) hb)
           replace HK := Aside0.mk (KeepBut.trans kS (KeepBut.of_below hb g none) (.inl rfl))
           replace HB := Aside0.mk (below_step bI hb)
           replace HI0 := Aside0.mk (IsS92.below iS hb)
           (try clear hb); (try clear hb2); (try clear hk); (try clear hi)
           refine hK.out _ _ ⟨(blk_cell BK318.out 0).trans rfl, (blk_cell BK318.out 1).trans rfl⟩ (fun hHeld => ?_)
           clear hK K
           refine norm_ (a' := ?_) ?_ ?_; rotate_left
           ·show Act.put _ (some 55) _ = _
            simp only [PS]
            rfl
           refine pure_ (i := 5) (N := some 56) (v := ?_) (a' := ?_) #[T,T,T,T,T,T,F] rfl rfl (by kernel_rfl) (fun _ _ _ h => h) (Or.inl ⟨by rfl, ?_⟩) ?_ ?_; rotate_left
           ·intro w'; go_simp; with_reducible rfl
           rotate_left
           ·simp only [PS]; rfl
           refine pure_ (i := 6) (N := some 57) (v := ?_) (a' := ?_) #[T,T,T,T,T,T,T] rfl rfl (by kernel_rfl) (fun _ _ _ h => h) (Or.inl ⟨by rfl, ?_⟩) ?_ ?_; rotate_left
           ·intro w'; go_simp; with_reducible rfl
           rotate_left
           ·simp only [PS]; rfl
           refine done_ (by kernel_rfl) ?_
           have hnb60 := NB318_296.out
           have hnc60 := NB296_318.out
           have hnb61 := NB318_0.out
           have hnc61 := NB0_318.out
           have hcz62_0 : w59.cell? ⟨gb318, 0, none⟩ = some (u319000) := (blk_cell BK318.out 0).trans rfl
           have hcz62_1 : w59.cell? ⟨gb318, 1, none⟩ = some (.slice Ao58 x319001_1.length co58) := (blk_cell BK318.out 1).trans rfl
           have hfz62_0 := blk_frozen BK318.out 0
           have hfz62_1 := blk_frozen BK318.out 1
           try go_wp2_with (first | ((with_reducible refine gate_builtin (b := .append) (xs := #[.tmp 60, .tmp 62]) rfl ?_); at_builtin; refine Kd.R_append (Kd.int .i64) w.heap.size rfl (.tmp 60) (.tmp 62) 28 3 (.int .i64 0) 8 rfl Tryd.underlying28 info3 rfl (by decide) (by omega) u319000 x319000_1 x7_42 [.int .i64 x7_42] (fun _ => True) (fun _ => False) rfl rfl ?aP (fun _ hk => hk.elim) ?aF ?aO (Below.refl _ _) ?aS ?aL ?_; (case aP => exact rfl); (case aF => exact (fun _ _ => trivial)); (case aO => exact (rr_ HO_319000.out)); (case aS => exact (kz w g)); (case aL => have := LMc56.out; omega); intro v331 w63 ho hb hg hat; rw [← Ny330.out] at ho; have n0_ := Aside0.mk (Kd.R_over' (rr_ HO_319001.out) (Kd.R_typed (rr_ HO_319000.out)) (by decide) hg); have n1_ := Aside0.mk (blk_grown (bk_ BK296.out) hg (Kd.R_ne HO_319000.out BK296.out (by decide))); have n2_ := Aside0.mk (blk_grown (bk_ BK318.out) hg (Kd.R_ne HO_319000.out BK318.out (by decide))); have n3_ := Aside0.mk (IsS92.grown iS hg (IsS92.own_ne HI0.out HO_319000.out (by decide))); have n4_ := Aside0.mk (below_weaken bI HL.out hb); have n5_ := Aside0.mk (KeepBut.trans kS (KeepBut.of_grown hg g) (Kd.R_base2 HO_319000.out)); have n6_ := Aside0.mk (ho); clear HO_319001; clear BK296; clear BK318; clear HI0; clear HB; clear HK; clear HO_319000; have HO_319001 := n0_; have BK296 := n1_; have BK318 := n2_; have HI0 := n3_; have HB := n4_; have HK := n5_; have HO332 := n6_; clear n0_ n1_ n2_ n3_ n4_ n5_ n6_; clear ho hb hg hat; obtain ⟨Ao64, co64, eo64⟩ := Kd.R_slice HO332.out; subst eo64; have hcz65_0 : w63.cell? ⟨gb318, 0, none⟩ = some (u319000) := (blk_cell BK318.out 0).trans rfl; have hcz65_1 : w63.cell? ⟨gb318, 1, none⟩ = some (.slice Ao58 x319001_1.length co58) := (blk_cell BK318.out 1).trans rfl; have hfz65_0 := blk_frozen BK318.out 0; have hfz65_1 := blk_frozen BK318.out 1))
           go_loopg [8] kj42 (fun kq v8 w' => ∃ (x8_4 : Int) (x1001_4 : Int) (x1002_4 : Int) (x319001_4 : List (S55)) (u319001 : Value), v8 = .int .i64 x8_4 ∧ Aside0 (spec_l06Path.l1 kq x6_1 x7_42 x8_4 s0_0 x1001_4 x1002_4 y330 x319001_4 = some (r1, r2, r3, r4)) ∧ Aside0 (kq ≤ kj42) ∧ Aside0 (Kd.R (Kd.int .i64) 3 w' w.heap.size (fun _ => True) (.slice Ao64 y330.length co64) y330) ∧ Aside0 (Kd.R k55 55 w' w.heap.size (fun _ => True) u319001 x319001_4) ∧ Aside0 (w'.heap[gb296]? = some (.cells #[(.slice none 0 0), (.slice none 0 0)] 37 (0, 0))) ∧ Aside0 (w'.heap[gb318]? = some (.cells #[(.slice Ao64 y330.length co64), u319001] 37 (0, 0))) ∧ Aside0 (IsS92 w0 w' g s0_0 x1001_4 x1002_4) ∧ Aside0 (KeepBut w w' g none) ∧ Aside0 (Below w0.heap.size w0 w'))
           case atStart => exact ⟨(0), (t326), (t327), (x319001_1), (.slice Ao58 x319001_1.length co58), (by first | rfl | (simp; done) | (simp [*]; done)), H', ⟨Nat.le_refl _⟩, ⟨by refine rr_ ?_; exact Kd.R_mono (Kd.R_far (p := ⟨gb318, 0, none⟩) (Kd.R_types HO332.out BK318.out (by decide)) (fun _ hk => hk.2) (.slice Ao64 y330.length co64)) (fun _ hk => trivial)⟩, ⟨by refine rr_ ?_; exact Kd.R_mono (Kd.R_far (p := ⟨gb318, 0, none⟩) (Kd.R_types HO_319001.out BK318.out (by decide)) (fun _ hk => hk.2) (.slice Ao64 y330.length co64)) (fun _ hk => trivial)⟩, ⟨bf_ BK296.out⟩, ⟨by refine bk_ ?_; refine blk_put (cs := #[u319000, .slice Ao58 x319001_1.length co58]) ?_ 0 _ rfl; exact bk_ BK318.out⟩, ⟨iS⟩, ⟨kS⟩, ⟨bI⟩⟩
           case round =>
            clear H'
            try clear c1
            try clear c2
            try clear p2
            try clear c3
            try clear p3
            try clear q3
            try clear hx3
            try clear c4
            try clear c5
            try clear c6
            try clear p6
            try clear c8
            try clear c17
            try clear c23
            try clear c24
            try clear c27
            try clear c27b0
            try clear c32
            try clear p32
            try clear q32
            try clear hx32
            try clear c35
            try clear c35b0
            try clear c35b1
            try clear c37
            try clear c37b0
            try clear c38
            try clear c38b0
            try clear c39
            try clear c40
            try clear c44
            try clear c46
            try clear c46b0
            try clear c50
            try clear c51
            try clear c53
            try clear c54
            try clear c56
            try clear c60
            try clear c61
            try clear p64
            try clear hcz18_0
            try clear hcz18_1
            try clear hcz25_0
            try clear hcz25_1
            try clear hcz41_0
            try clear hcz41_1
            try clear hcz52_0
            try clear hcz52_1
            try clear hcz55_0
            try clear hcz55_1
            try clear hcz62_0
            try clear hcz62_1
            try clear hcz65_0
            try clear hcz65_1
            try clear hfz18_0
            try clear hfz18_1
            try clear hfz25_0
            try clear hfz25_1
            try clear hfz41_0
            try clear hfz41_1
            try clear hfz52_0
            try clear hfz52_1
            try clear hfz55_0
            try clear hfz55_1
            try clear hfz62_0
            try clear hfz62_1
            try clear hfz65_0
            try clear hfz65_1
            try clear hx328_0
            try clear p2
            try clear p3
            try clear p32
            try clear p328
            try clear p6
            try clear q3
            try clear q32
            try clear q328
            obtain ⟨x8_4, x1001_4, x1002_4, x319001_4, u319001, rfl, HA, HK4, HO_319000, HO_319001, BK296, BK318, HI0, HK, HB⟩ := hrel
            cases gk with
            | zero => exact absurd HA.out (by simp [spec_l06Path.l1])
            | succ k4 =>
             have H := HA.out
             clear HA
             simp only [spec_l06Path.l1] at H
             replace H := Option.bind_eq_some_iff.mp H
             obtain ⟨t333, A660, H⟩ := H
             try dsimp only at H
             have A66 := Aside0.mk A660
             clear A660
             by_cases c67 : x8_4 < t333
             ·rw [if_pos c67] at H
              have c67b0 : decide (x8_4 < t333) = true := decide_eq_true c67
              clear c67
              replace H := Option.bind_eq_some_iff.mp H
              obtain ⟨⟨t334, t335, t336, t337⟩, A680, H⟩ := H
              try dsimp only at H
              have A68 := Aside0.mk A680
              clear A680
              by_cases c69 : x319001_4.length < 8796093022208
              ·rw [if_pos c69] at H
               have LMc69 := Aside0.mk c69
               clear c69
               obtain ⟨y338, hy338⟩ : ∃ y_ : List (S55), y_ = (x319001_4 ++ [(⟨t334, t335⟩ : S55)]) := ⟨_, rfl⟩
               replace H : (spec_l06Path.l1 k4 x6_1 x7_42 (wrap64 (x8_4 + 1)) s0_0 t336 t337 y330 y338) = some (r1, r2, r3, r4) := by first | (rw [hy338]; with_reducible exact H) | (have H2_ := (Option.bind_some _ _).symm.trans H; rw [hy338]; with_reducible exact H2_) | (have H2_ := (Option.bind_some _ _).symm.trans H; with_reducible exact H2_) | with_reducible exact H | (rw [hy338]; exact H) | exact H
               have Ny338 := Aside0.mk hy338
               clear hy338
               have H' := Aside0.mk H
               clear H
               try go_wp2_with (first | ((with_reducible refine gate_callee (f := 32) rfl ?_); refine goesL_ (some 67) rfl rfl Tryd.func32 (by kernel_rfl) rfl #[.int .i64 x7_42] rfl lm_ ?_; (with_reducible refine (spec_NeedOf.calls x7_42 t333 _ A66.out).mono ?_); rintro e w70 ⟨rfl, hb⟩; refine ⟨_, rfl, ?_⟩; replace HO_319000 := Aside0.mk (Kd.R_below (rr_ HO_319000.out) hb); replace HO_319001 := Aside0.mk (Kd.R_below (rr_ HO_319001.out) hb); replace BK296 := Aside0.mk (blk_below (bk_ BK296.out) hb); replace BK318 := Aside0.mk (blk_below (bk_ BK318.out) hb); replace HK := Aside0.mk (KeepBut.trans kS (KeepBut.of_below hb g none) (.inl rfl)); replace HB := Aside0.mk (below_step bI hb); replace HI0 := Aside0.mk (IsS92.below iS hb); (try clear hb)))
               replace HO_319000 := Aside0.mk (Kd.R_drew HO_319000.out)
               replace HO_319001 := Aside0.mk (Kd.R_drew HO_319001.out)
               replace BK296 := Aside0.mk (blk_drew BK296.out)
               replace BK318 := Aside0.mk (blk_drew BK318.out)
               replace HI0 := Aside0.mk (IsS92.drew HI0.out)
               replace HK := Aside0.mk (keep_drew HK.out)
               replace HB := Aside0.mk (below_drew1 HB.out)
               refine start_ (n := 8) (S := fun w' => w'.cell? ⟨gb318, 0, none⟩ = some (.slice Ao64 y330.length co64) ∧ w'.cell? ⟨gb318, 1, none⟩ = some (u319001)) (ds := [7]) #[F,F,F,F,F,F,F,F] (by kernel_rfl) rfl rfl ⟨(blk_cell BK318.out 0).trans rfl, (blk_cell BK318.out 1).trans rfl⟩ (fun hHeld => ?_); refine with_tabW spec_l06Path.tab18 spec_l06Path.bits18 (fun HT_ HW_ => ?_)
               generalize w70.drew = w71 at HO_319000 HO_319001 BK296 BK318 HI0 HK HB hHeld ⊢
               refine pure_ (i := 0) (N := some 71) (v := ?_) (a' := ?_) #[T,F,F,F,F,F,F,F] rfl rfl (any_of HT_.out (by kernel_rfl)) (fun _ _ _ h => h) (Or.inl ⟨by rfl, ?_⟩) ?_ ?_; rotate_left
               ·intro w'; go_simp; with_reducible rfl
               rotate_left
               ·simp only [PS]; rfl
               refine pure_ (i := 2) (N := some 73) (v := ?_) (a' := ?_) #[T,F,T,F,F,F,F,F] rfl rfl (any_of HT_.out (by kernel_rfl)) (fun _ _ _ h => h) (Or.inl ⟨by rfl, ?_⟩) ?_ ?_; rotate_left
               ·intro w'; go_simp; with_reducible rfl
               rotate_left
               ·simp only [PS]; rfl
               refine take_ (i := 1) (N := some 72) (v := ?_) (a' := ?_) #[T,T,T,F,F,F,F,F] rfl rfl (take_ofW HT_.out HW_.out (by kernel_rfl)) (fun _ _ _ h => h) (Or.inl ⟨by rfl, ?_⟩) hHeld ?_ ?_; rotate_left
               ·rintro w' ⟨s0, s1⟩; go_simp; with_reducible rfl
               rotate_left
               ·simp only [PS]; rfl
               refine one_ (i := 3) (N := some 74) #[T,T,T,T,F,F,F,F] rfl rfl (one_of HT_.out (by kernel_rfl)) (by decide) (fun K hK => ?_)
               refine goes_ Tryd.func84 (by kernel_rfl) rfl #[.pointer (some ⟨g, 0, none⟩)] (by rfl) rfl rfl lm_ ?_
               with_reducible refine (spec_l04Point.calls g s0_0 x1001_4 x1002_4 t334 t335 t336 t337 w0 _ ?side1 ?side2 A68.out).mono ?_
               (case side1 => exact iS)
               (case side2 => exact bI)
               rintro e w72 ⟨rfl, hi, hb, hk⟩
               refine ⟨_, rfl, ?_⟩
               replace HO_319000 := Aside0.mk (Kd.R_mono (Kd.R_keep (IsS92.apart (show IsS92 w0 _ g s0_0 x1001_4 x1002_4 from iS) (rr_ HO_319000.out) (by decide)) hk (fun _ h => h.2)) (fun _ h => h.1))
               replace HO_319001 := Aside0.mk (Kd.R_mono (Kd.R_keep (IsS92.apart (show IsS92 w0 _ g s0_0 x1001_4 x1002_4 from iS) (rr_ HO_319001.out) (by decide)) hk (fun _ h => h.2)) (fun _ h => h.1))
               replace BK296 := Aside0.mk (KeepBut.blk hk (bk_ BK296.out) NB296_0.out (by simp))
               replace BK318 := Aside0.mk (KeepBut.blk hk (bk_ BK318.out) NB318_0.out (by simp))
               replace HK := Aside0.mk (KeepBut.trans kS hk (.inl rfl))
               replace HB := Aside0.mk (hb)
               replace HI0 := Aside0.mk (hi)
               (try clear hb); (try clear hb2); (try clear hk); (try clear hi)
               refine hK.out _ _ ⟨(blk_cell BK318.out 0).trans rfl, (blk_cell BK318.out 1).trans rfl⟩ (fun hHeld => ?_)
               clear hK K
               refine norm_ (a' := ?_) ?_ ?_; rotate_left
               ·show Act.put _ (some 74) _ = _
                simp only [PS]
                rfl
               refine one_ (i := 4) (N := some 75) #[T,T,T,T,T,F,F,F] rfl rfl (one_of HT_.out (by kernel_rfl)) (by decide) (fun K hK => ?_)
               refine value_ (w1 := ?_) (v := ?_) (by rfl) rfl ?_ ?_
               rotate_left 2
               ·go_simp
                constructor
                ·rfl
                ·rfl
               refine hK.out _ _ ⟨(blk_cell (blk_alloc BK318.out _) 0).trans rfl, (blk_cell (blk_alloc BK318.out _) 1).trans rfl⟩ (fun hHeld => ?_)
               clear hK K
               refine norm_ (a' := ?_) ?_ ?_; rotate_left
               ·show Act.put _ (some 75) _ = _
                simp only [PS]
                rfl
               refine one_ (i := 5) (N := some 76) #[T,T,T,T,T,T,F,F] rfl rfl (one_of HT_.out (by kernel_rfl)) (by decide) (fun K hK => ?_)
               refine Kd.R_append_step k55 w.heap.size (by rfl) (.tmp 72) (.tmp 75) 35 55 (.agg #[(.int .i64 0), (.int .i64 0)]) 16 rfl Tryd.underlying35 info55 rfl (by decide) (by omega) u319001 x319001_4 (⟨t334, t335⟩ : S55) [.int .i64 t334, .int .i64 t335] (fun _ => True) (fun _ => False) rfl rfl ?aP (fun _ hk => hk.elim) ?aF ?aO (Below.refl _ _) ?aS ?aL ?_
               (case aP => exact k55_mkM _ _ _ (⟨t334, t335⟩ : S55))
               (case aF => exact (fun _ _ => trivial))
               (case aO => exact (rr_ HO_319001.out))
               (case aS => exact (kz w g))
               (case aL => have := LMc69.out; omega)
               intro v339 w73 ho hb hg hat
               rw [← Ny338.out] at ho
               have n0_ := Aside0.mk (Kd.R_over' (rr_ HO_319000.out) (Kd.R_typed (rr_ HO_319001.out)) (by decide) hg)
               have n1_ := Aside0.mk (blk_grown (bk_ BK296.out) hg (Kd.R_ne HO_319001.out BK296.out (by decide)))
               have n2_ := Aside0.mk (blk_grown (bk_ BK318.out) hg (Kd.R_ne HO_319001.out BK318.out (by decide)))
               have n3_ := Aside0.mk (IsS92.grown iS hg (IsS92.own_ne HI0.out HO_319001.out (by decide)))
               have n4_ := Aside0.mk (below_weaken bI HL.out hb)
               have n5_ := Aside0.mk (KeepBut.trans kS (KeepBut.of_grown hg g) (Kd.R_base2 HO_319001.out))
               have n6_ := Aside0.mk (ho)
               clear HO_319000 BK296 BK318 HI0 HB HK HO_319001
               have HO_319000 := n0_
               have BK296 := n1_
               have BK318 := n2_
               have HI0 := n3_
               have HB := n4_
               have HK := n5_
               have HO340 := n6_
               clear n0_ n1_ n2_ n3_ n4_ n5_ n6_ ho hb hg hat
               obtain ⟨Ao74, co74, eo74⟩ := Kd.R_slice HO340.out
               (first | subst eo74 | (injection eo74 with f1_ f2_ f3_; have f4_ := f1_.symm; have f5_ := f3_.symm; clear f1_ f2_ f3_; subst f4_; subst f5_))
               refine hK.out _ _ ⟨(blk_cell BK318.out 0).trans rfl, (blk_cell BK318.out 1).trans rfl⟩ (fun hHeld => ?_)
               clear hK K
               refine norm_ (a' := ?_) ?_ ?_; rotate_left
               ·show Act.put _ (some 76) _ = _
                simp only [PS]
                rfl
               refine pure_ (i := 6) (N := some 77) (v := ?_) (a' := ?_) #[T,T,T,T,T,T,T,F] rfl rfl (any_of HT_.out (by kernel_rfl)) (fun _ _ _ h => h) (Or.inl ⟨by rfl, ?_⟩) ?_ ?_; rotate_left
               ·intro w'; go_simp; with_reducible rfl
               rotate_left
               ·simp only [PS]; rfl
               refine last_ (i := 7) (N := none) #[T,T,T,T,T,T,T,T] rfl rfl (one_of HT_.out (by kernel_rfl)) (by decide) (fun K hK => ?_)
               have hs75 : w73.cell? ⟨gb318, 1, none⟩ = some (u319001) := (blk_cell BK318.out 1).trans rfl
               have hfs75 := blk_frozen BK318.out 1
               have hns75_0 := NB296_318.out
               have hms75_0 := NB318_296.out
               refine skip_ (w1 := ?_) (by rfl) rfl ?_ ?_; rotate_left
               ·go_simp
                rfl
               refine hK.out _ _ ?_
               clear hK K
               refine done_ (done_of HT_.out (by kernel_rfl)) ?_
               try go_wp2
               go_roundg k4
               case measure => have := HK1.out; have := HJ28.out; have := HJ42.out; have := HK4.out; omega
               case rel => exact ⟨(wrap64 (x8_4 + 1)), (t336), (t337), (y338), (.slice Ao74 y338.length co74), (by first | rfl | (simp; done) | (simp [*]; done)), H', ⟨by have := HK1.out; have := HJ28.out; have := HJ42.out; have := HK4.out; omega⟩, ⟨by refine rr_ ?_; exact Kd.R_mono (Kd.R_far (p := ⟨gb318, 1, none⟩) (Kd.R_types HO_319000.out BK318.out (by decide)) (fun _ hk => hk.2) (.slice Ao74 y338.length co74)) (fun _ hk => trivial)⟩, ⟨by refine rr_ ?_; exact Kd.R_mono (Kd.R_far (p := ⟨gb318, 1, none⟩) (Kd.R_types HO340.out BK318.out (by decide)) (fun _ hk => hk.2) (.slice Ao74 y338.length co74)) (fun _ hk => trivial)⟩, ⟨bf_ BK296.out⟩, ⟨by refine bk_ ?_; refine blk_put (cs := #[.slice Ao64 y330.length co64, u319001]) ?_ 1 _ rfl; exact bk_ BK318.out⟩, ⟨iS⟩, ⟨kS⟩, ⟨bI⟩⟩
              ·rw [if_neg c69] at H
               exact absurd H (by simp)
             ·rw [if_neg c67] at H
              have c67b0 : decide (x8_4 < t333) = false := decide_eq_false c67
              clear c67
              have H' := Aside0.mk H
              clear H
              go_wp2_with (first | ((with_reducible refine gate_callee (f := 32) rfl ?_); refine goesL_ (some 67) rfl rfl Tryd.func32 (by kernel_rfl) rfl #[.int .i64 x7_42] rfl lm_ ?_; (with_reducible refine (spec_NeedOf.calls x7_42 t333 _ A66.out).mono ?_); rintro e w76 ⟨rfl, hb⟩; refine ⟨_, rfl, ?_⟩; replace HO_319000 := Aside0.mk (Kd.R_below (rr_ HO_319000.out) hb); replace HO_319001 := Aside0.mk (Kd.R_below (rr_ HO_319001.out) hb); replace BK296 := Aside0.mk (blk_below (bk_ BK296.out) hb); replace BK318 := Aside0.mk (blk_below (bk_ BK318.out) hb); replace HK := Aside0.mk (KeepBut.trans kS (KeepBut.of_below hb g none) (.inl rfl)); replace HB := Aside0.mk (below_step bI hb); replace HI0 := Aside0.mk (IsS92.below iS hb); (try clear hb)))
              go_roundg k4
              case measure => have := HK1.out; have := HJ28.out; have := HJ42.out; have := HK4.out; omega
              case rel => exact ⟨(wrap64 (x6_1 + 1)), (x1001_4), (x1002_4), (y330), (x319001_4), (.slice Ao64 y330.length co64), (u319001), (by first | rfl | (simp; done) | (simp [*]; done)), H', ⟨by have := HK1.out; have := HJ28.out; have := HJ42.out; have := HK4.out; omega⟩, ⟨rr_ HO_319000.out⟩, ⟨rr_ HO_319001.out⟩, ⟨bk_ BK296.out⟩, ⟨bk_ BK318.out⟩, ⟨iS⟩, ⟨kS⟩, ⟨bI⟩⟩
          ·rw [if_neg c56] at H
           exact absurd H (by simp)
    ·rw [if_neg c27] at H
     have c27b0 : decide (x6_1 < (wrap64 (1 + t319))) = false := decide_eq_false c27
     clear c27
     simp only [Option.some.injEq, Prod.mk.injEq] at H
     obtain ⟨rfl, rfl, rfl, rfl⟩ := H
     go_wp2_with (first | ((with_reducible refine gate_callee (f := 53) rfl ?_); refine goesL_ (some 32) rfl rfl Tryd.func53 (by kernel_rfl) rfl #[.pointer (some ⟨g, 0, none⟩), .int .i64 6] rfl lm_ ?_; (with_reducible refine (spec_l01Below.calls g s0_0 x1001_1 x1002_1 6 t319 t320 t321 w0 _ ?side1 ?side2 A26.out).mono ?_); (case side1 => exact iS); (case side2 => exact bI); rintro e w77 ⟨rfl, hi, hb, hk⟩; refine ⟨_, rfl, ?_⟩; replace HO_319000 := Aside0.mk (Kd.R_mono (Kd.R_keep (IsS92.apart (show IsS92 w0 _ g s0_0 x1001_1 x1002_1 from iS) (rr_ HO_319000.out) (by decide)) hk (fun _ h => h.2)) (fun _ h => h.1)); replace HO_319001 := Aside0.mk (Kd.R_mono (Kd.R_keep (IsS92.apart (show IsS92 w0 _ g s0_0 x1001_1 x1002_1 from iS) (rr_ HO_319001.out) (by decide)) hk (fun _ h => h.2)) (fun _ h => h.1)); replace BK296 := Aside0.mk (KeepBut.blk hk (bk_ BK296.out) NB296_0.out (by simp)); replace BK318 := Aside0.mk (KeepBut.blk hk (bk_ BK318.out) NB318_0.out (by simp)); replace HK := Aside0.mk (KeepBut.trans kS hk (.inl rfl)); replace HB := Aside0.mk (hb); replace HI0 := Aside0.mk (hi); (try clear hb hk hi); have hnb78 := NB318_296.out; have hnc78 := NB296_318.out; have hnb79 := NB318_0.out; have hnc79 := NB0_318.out; have hcz80_0 : w77.cell? ⟨gb318, 0, none⟩ = some (u319000) := (blk_cell BK318.out 0).trans rfl; have hcz80_1 : w77.cell? ⟨gb318, 1, none⟩ = some (u319001) := (blk_cell BK318.out 1).trans rfl; have hfz80_0 := blk_frozen BK318.out 0; have hfz80_1 := blk_frozen BK318.out 1; obtain ⟨Ao81, co81, eo81⟩ := Kd.R_slice HO_319000.out; subst eo81; have hnb82 := NB296_0.out; have hnc82 := NB0_296.out; have hcz83_0 : w77.cell? ⟨gb296, 0, none⟩ = some (.slice none 0 0) := (blk_cell BK296.out 0).trans rfl; have hcz83_1 : w77.cell? ⟨gb296, 1, none⟩ = some (.slice none 0 0) := (blk_cell BK296.out 1).trans rfl; have hfz83_0 := blk_frozen BK296.out 0; have hfz83_1 := blk_frozen BK296.out 1; obtain ⟨Ao84, co84, eo84⟩ := Kd.R_slice HO_319001.out; subst eo84))
     refine bodyPost_ret (results_cell_row rfl _ _ gb296 37 #[.slice Ao81 x319000_1.length co81, .slice Ao84 x319001_1.length co84] (0, 0) _ rfl (by refine bk_ ?_; refine blk_put (cs := #[.slice Ao81 x319000_1.length co81, .slice none 0 0]) ?_ 1 _ rfl; refine bk_ ?_; refine blk_put (cs := #[.slice none 0 0, .slice none 0 0]) ?_ 0 _ rfl; exact bk_ BK296.out) Tryd.underlying37 rfl (by kernel_rfl)) rfl ?_
     exact ⟨_, _, by first | rfl | (simp [errW_none, errW_some] <;> rfl) | (simp [*, errW_none, errW_some] <;> rfl), by refine rr_ ?_; exact Kd.R_mono (Kd.R_far (p := ⟨gb296, 1, none⟩) (Kd.R_far (p := ⟨gb296, 0, none⟩) (Kd.R_types HO_319000.out BK296.out (by decide)) (fun _ hk => hk.2) (.slice Ao81 x319000_1.length co81)) (fun _ hk => hk.2) (.slice Ao84 x319001_1.length co84)) (fun _ hk => trivial), by refine rr_ ?_; exact Kd.R_mono (Kd.R_far (p := ⟨gb296, 1, none⟩) (Kd.R_far (p := ⟨gb296, 0, none⟩) (Kd.R_types HO_319001.out BK296.out (by decide)) (fun _ hk => hk.2) (.slice Ao81 x319000_1.length co81)) (fun _ hk => hk.2) (.slice Ao84 x319001_1.length co84)) (fun _ hk => trivial), by exact iS, by exact bI, by exact kS⟩

end Go.Proofs.YtpmgfmalpijjbaaDoor.PFnPaths
