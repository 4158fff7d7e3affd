/- The walks of FnPaths, part 13: what the print wrote, with some proofs of the session's own. -/
import Derived.Test.YtpmgfmalpijjbaaDoorName
import Derived.Test.YtpmgfmalpijjbaaDoorShort
import Derived.Test.YtpmgfmalpijjbaaDoorQFnPathsx0
import Derived.Test.YtpmgfmalpijjbaaDoorQFnPathsx9
import Derived.Test.YtpmgfmalpijjbaaDoorQFnPathsx10
import Derived.Test.YtpmgfmalpijjbaaDoorQFnPathsx11
import Derived.Test.YtpmgfmalpijjbaaDoorQFnPathsx12
namespace Go.Proofs.YtpmgfmalpijjbaaDoor.PFnPaths
open Go.RowKit Go.Proofs.YtpmgfmalpijjbaaDoor.Short Go.Proofs.YtpmgfmalpijjbaaDoorW.PrintWords Go.Proofs.YtpmgfmalpijjbaaDoorW.PrintLast Go.Proofs.YtpmgfmalpijjbaaDoorW.PrintMore
attribute [local go_sem] max2_int min2_int max_two min_two max_three min_three max_four min_four   -- for this text's walks alone
set_option linter.unusedVariables false
set_option linter.unusedSimpArgs false

/-! ### spec_l06Any: function 47 -/
def spec_l06Any.f (k : Nat) (s0_0 : List Int) (s0_1 : Int) (s0_2 : Int) : Option (List Int × (List (S55)) × Int × Int) := (spec_l06Path.f k s0_0 s0_1 s0_2).bind fun bt366 => ((some (([] : List Int) : List Int)).bind fun y375 => (if y375.length + bt366.1.length < 17592186044416 then ((some (y375 ++ bt366.1 : List Int)).bind fun y378 => ((some (([] : List (S55)) : List (S55))).bind fun y381 => (if y381.length + bt366.2.1.length < 8796093022208 then ((some (y381 ++ bt366.2.1 : List (S55))).bind fun y384 => ((spec_l01Below.f s0_0 bt366.2.2.1 bt366.2.2.2 16).bind fun bt387 => (if bt387.1 = 0 then ((spec_l01Below.f s0_0 bt387.2.1 bt387.2.2 (y378.length : Int)).bind fun bt390 => ((spec_l01Below.f s0_0 bt390.2.1 bt390.2.2 7).bind fun bt393 => (if 0 ≤ bt390.1 then (if bt390.1 < (y378.length : Int) then (some ((y378.set (bt390.1 : Int).toNat bt393.1), y384, bt393.2.1, bt393.2.2)) else (none)) else (none)))) else (if bt387.1 = 1 then (if 1 ≤ (y384.length : Int) then (some (y378, (y384.drop (1 : Int).toNat), bt387.2.1, bt387.2.2)) else (none)) else (if bt387.1 = 2 then ((spec_l04AnyPoint.f k s0_0 bt387.2.1 bt387.2.2).bind fun bt400 => (if 0 < (y384.length : Int) then (some (y378, (y384.set (0 : Int).toNat (⟨bt400.1, bt400.2.1⟩ : S55)), bt400.2.2.1, bt400.2.2.2)) else (none))) else (if bt387.1 = 3 then (some (([] : List Int), ([] : List (S55)), bt387.2.1, bt387.2.2)) else (some (y378, y384, bt387.2.1, bt387.2.2)))))))) else (none)))) else (none)))
def spec_l06Any.T2 : Bool × List (List Nat × List Nat) := (true, [([], []), ([], []), ([1], [1]), ([0, 2], [0, 2]), ([], []), ([], []), ([5], [5]), ([4, 6, 3], [4, 6]), ([3, 7], [3, 7]), ([8, 7, 0, 1, 2, 3, 4, 5, 6, 7, 8], [8])])
def spec_l06Any.B2 : List Nat := [0, 0, 2, 7, 0, 0, 32, 127, 255, 511]
theorem spec_l06Any.tab2 : rtab .any (opsOf Tryd.f47 2) = spec_l06Any.T2 := by kernel_rfl
theorem spec_l06Any.bits2 : waitsOk spec_l06Any.T2.2 spec_l06Any.B2 = true := by kernel_rfl
def spec_l06Any.T5 : Bool × List (List Nat × List Nat) := (true, [([], []), ([0], [0]), ([], []), ([], []), ([3], [3]), ([4], [4]), ([2, 5], [2, 5]), ([], []), ([7, 6], [7]), ([1, 6, 0, 1, 2, 3, 4, 5, 6, 7, 8], [1, 6]), ([9, 8, 8, 0, 1, 2, 3, 4, 5, 6, 7, 8], [8, 9])])
def spec_l06Any.B5 : List Nat := [0, 1, 0, 0, 8, 24, 60, 0, 252, 511, 1023]
theorem spec_l06Any.tab5 : rtab .any (opsOf Tryd.f47 5) = spec_l06Any.T5 := by kernel_rfl
theorem spec_l06Any.bits5 : waitsOk spec_l06Any.T5.2 spec_l06Any.B5 = true := by kernel_rfl
set_option maxHeartbeats 8000000 in
set_option maxRecDepth 100000 in
theorem spec_l06Any.calls (k : Nat) (g : Nat) (s0_0 : List Int) (s0_1 : Int) (s0_2 : Int) (r1 : List Int) (r2 : List (S55)) (r3 : Int) (r4 : Int) (w0 w : World) (hI : IsS92 w0 w g s0_0 s0_1 s0_2) (hB : Below w0.heap.size w0 w) (h : spec_l06Any.f k s0_0 s0_1 s0_2 = some (r1, r2, r3, r4)) :
    Calls Tryd.prog 47 #[.pointer (some ⟨g, 0, none⟩)] w fun e w' => ∃ v0_ v1_ : Value, e = .returned (.agg #[v0_, v1_]) ∧ Kd.R (Kd.int .i64) 3 w' w.heap.size (fun _ => True) v0_ r1 ∧ Kd.Q k55 55 w' w.heap.size (fun _ => True) v1_ r2 ∧ IsS92 w0 w' g s0_0 r3 r4 ∧ Below w0.heap.size w0 w' ∧ KeepBut w w' g none := by
 have hu37 := Tryd.underlying37
 have hu55 := Tryd.underlying55
 have HI0 := Aside0.mk hI
 have HK := Aside0.mk (KeepBut.refl w g none)
 have HL := Aside0.mk hB.size
 clear hI
 have HW0 := Aside0.mk hB.size
 have HB := Aside0.mk hB
 clear hB
 have H : ((spec_l06Path.f k s0_0 s0_1 s0_2).bind fun bt366 => ((some (([] : List Int) : List Int)).bind fun y375 => (if y375.length + bt366.1.length < 17592186044416 then ((some (y375 ++ bt366.1 : List Int)).bind fun y378 => ((some (([] : List (S55)) : List (S55))).bind fun y381 => (if y381.length + bt366.2.1.length < 8796093022208 then ((some (y381 ++ bt366.2.1 : List (S55))).bind fun y384 => ((spec_l01Below.f s0_0 bt366.2.2.1 bt366.2.2.2 16).bind fun bt387 => (if bt387.1 = 0 then ((spec_l01Below.f s0_0 bt387.2.1 bt387.2.2 (y378.length : Int)).bind fun bt390 => ((spec_l01Below.f s0_0 bt390.2.1 bt390.2.2 7).bind fun bt393 => (if 0 ≤ bt390.1 then (if bt390.1 < (y378.length : Int) then (some ((y378.set (bt390.1 : Int).toNat bt393.1), y384, bt393.2.1, bt393.2.2)) else (none)) else (none)))) else (if bt387.1 = 1 then (if 1 ≤ (y384.length : Int) then (some (y378, (y384.drop (1 : Int).toNat), bt387.2.1, bt387.2.2)) else (none)) else (if bt387.1 = 2 then ((spec_l04AnyPoint.f k s0_0 bt387.2.1 bt387.2.2).bind fun bt400 => (if 0 < (y384.length : Int) then (some (y378, (y384.set (0 : Int).toNat (⟨bt400.1, bt400.2.1⟩ : S55)), bt400.2.2.1, bt400.2.2.2)) else (none))) else (if bt387.1 = 3 then (some (([] : List Int), ([] : List (S55)), bt387.2.1, bt387.2.2)) else (some (y378, y384, bt387.2.1, bt387.2.2)))))))) else (none)))) else (none)))) = some (r1, r2, r3, r4) := h
 clear h
 replace H := Option.bind_eq_some_iff.mp H
 obtain ⟨⟨t366, t369, t372, t373⟩, A20, H⟩ := H
 try dsimp only at H
 have A2 := Aside0.mk A20
 clear A20
 obtain ⟨y375, hy375⟩ : ∃ y_ : List Int, y_ = (([] : List Int)) := ⟨_, rfl⟩
 replace H : (if y375.length + t366.length < 17592186044416 then ((some (y375 ++ t366 : List Int)).bind fun y378 => ((some (([] : List (S55)) : List (S55))).bind fun y381 => (if y381.length + t369.length < 8796093022208 then ((some (y381 ++ t369 : List (S55))).bind fun y384 => ((spec_l01Below.f s0_0 t372 t373 16).bind fun bt387 => (if bt387.1 = 0 then ((spec_l01Below.f s0_0 bt387.2.1 bt387.2.2 (y378.length : Int)).bind fun bt390 => ((spec_l01Below.f s0_0 bt390.2.1 bt390.2.2 7).bind fun bt393 => (if 0 ≤ bt390.1 then (if bt390.1 < (y378.length : Int) then (some ((y378.set (bt390.1 : Int).toNat bt393.1), y384, bt393.2.1, bt393.2.2)) else (none)) else (none)))) else (if bt387.1 = 1 then (if 1 ≤ (y384.length : Int) then (some (y378, (y384.drop (1 : Int).toNat), bt387.2.1, bt387.2.2)) else (none)) else (if bt387.1 = 2 then ((spec_l04AnyPoint.f k s0_0 bt387.2.1 bt387.2.2).bind fun bt400 => (if 0 < (y384.length : Int) then (some (y378, (y384.set (0 : Int).toNat (⟨bt400.1, bt400.2.1⟩ : S55)), bt400.2.2.1, bt400.2.2.2)) else (none))) else (if bt387.1 = 3 then (some (([] : List Int), ([] : List (S55)), bt387.2.1, bt387.2.2)) else (some (y378, y384, bt387.2.1, bt387.2.2)))))))) else (none)))) else (none)) = some (r1, r2, r3, r4) := by first | (rw [hy375]; with_reducible exact H) | (have H2_ := (Option.bind_some _ _).symm.trans H; rw [hy375]; with_reducible exact H2_) | (have H2_ := (Option.bind_some _ _).symm.trans H; with_reducible exact H2_) | with_reducible exact H | (rw [hy375]; exact H) | exact H
 have Ny375 := Aside0.mk hy375
 clear hy375
 by_cases c3 : y375.length + t366.length < 17592186044416
 ·rw [if_pos c3] at H
  have LMc3 := Aside0.mk c3
  clear c3
  obtain ⟨y378, hy378⟩ : ∃ y_ : List Int, y_ = (y375 ++ t366) := ⟨_, rfl⟩
  replace H : ((some (([] : List (S55)) : List (S55))).bind fun y381 => (if y381.length + t369.length < 8796093022208 then ((some (y381 ++ t369 : List (S55))).bind fun y384 => ((spec_l01Below.f s0_0 t372 t373 16).bind fun bt387 => (if bt387.1 = 0 then ((spec_l01Below.f s0_0 bt387.2.1 bt387.2.2 (y378.length : Int)).bind fun bt390 => ((spec_l01Below.f s0_0 bt390.2.1 bt390.2.2 7).bind fun bt393 => (if 0 ≤ bt390.1 then (if bt390.1 < (y378.length : Int) then (some ((y378.set (bt390.1 : Int).toNat bt393.1), y384, bt393.2.1, bt393.2.2)) else (none)) else (none)))) else (if bt387.1 = 1 then (if 1 ≤ (y384.length : Int) then (some (y378, (y384.drop (1 : Int).toNat), bt387.2.1, bt387.2.2)) else (none)) else (if bt387.1 = 2 then ((spec_l04AnyPoint.f k s0_0 bt387.2.1 bt387.2.2).bind fun bt400 => (if 0 < (y384.length : Int) then (some (y378, (y384.set (0 : Int).toNat (⟨bt400.1, bt400.2.1⟩ : S55)), bt400.2.2.1, bt400.2.2.2)) else (none))) else (if bt387.1 = 3 then (some (([] : List Int), ([] : List (S55)), bt387.2.1, bt387.2.2)) else (some (y378, y384, bt387.2.1, bt387.2.2)))))))) else (none))) = some (r1, r2, r3, r4) := by first | (rw [hy378]; with_reducible exact H) | (have H2_ := (Option.bind_some _ _).symm.trans H; rw [hy378]; with_reducible exact H2_) | (have H2_ := (Option.bind_some _ _).symm.trans H; with_reducible exact H2_) | with_reducible exact H | (rw [hy378]; exact H) | exact H
  have Ny378 := Aside0.mk hy378
  clear hy378
  obtain ⟨y381, hy381⟩ : ∃ y_ : List (S55), y_ = (([] : List (S55))) := ⟨_, rfl⟩
  replace H : (if y381.length + t369.length < 8796093022208 then ((some (y381 ++ t369 : List (S55))).bind fun y384 => ((spec_l01Below.f s0_0 t372 t373 16).bind fun bt387 => (if bt387.1 = 0 then ((spec_l01Below.f s0_0 bt387.2.1 bt387.2.2 (y378.length : Int)).bind fun bt390 => ((spec_l01Below.f s0_0 bt390.2.1 bt390.2.2 7).bind fun bt393 => (if 0 ≤ bt390.1 then (if bt390.1 < (y378.length : Int) then (some ((y378.set (bt390.1 : Int).toNat bt393.1), y384, bt393.2.1, bt393.2.2)) else (none)) else (none)))) else (if bt387.1 = 1 then (if 1 ≤ (y384.length : Int) then (some (y378, (y384.drop (1 : Int).toNat), bt387.2.1, bt387.2.2)) else (none)) else (if bt387.1 = 2 then ((spec_l04AnyPoint.f k s0_0 bt387.2.1 bt387.2.2).bind fun bt400 => (if 0 < (y384.length : Int) then (some (y378, (y384.set (0 : Int).toNat (⟨bt400.1, bt400.2.1⟩ : S55)), bt400.2.2.1, bt400.2.2.2)) else (none))) else (if bt387.1 = 3 then (some (([] : List Int), ([] : List (S55)), bt387.2.1, bt387.2.2)) else (some (y378, y384, bt387.2.1, bt387.2.2)))))))) else (none)) = some (r1, r2, r3, r4) := by first | (rw [hy381]; with_reducible exact H) | (have H2_ := (Option.bind_some _ _).symm.trans H; rw [hy381]; with_reducible exact H2_) | (have H2_ := (Option.bind_some _ _).symm.trans H; with_reducible exact H2_) | with_reducible exact H | (rw [hy381]; exact H) | exact H
  have Ny381 := Aside0.mk hy381
  clear hy381
  by_cases c4 : y381.length + t369.length < 8796093022208
  ·rw [if_pos c4] at H
   have LMc4 := Aside0.mk c4
   clear c4
   obtain ⟨y384, hy384⟩ : ∃ y_ : List (S55), y_ = (y381 ++ t369) := ⟨_, rfl⟩
   replace H : ((spec_l01Below.f s0_0 t372 t373 16).bind fun bt387 => (if bt387.1 = 0 then ((spec_l01Below.f s0_0 bt387.2.1 bt387.2.2 (y378.length : Int)).bind fun bt390 => ((spec_l01Below.f s0_0 bt390.2.1 bt390.2.2 7).bind fun bt393 => (if 0 ≤ bt390.1 then (if bt390.1 < (y378.length : Int) then (some ((y378.set (bt390.1 : Int).toNat bt393.1), y384, bt393.2.1, bt393.2.2)) else (none)) else (none)))) else (if bt387.1 = 1 then (if 1 ≤ (y384.length : Int) then (some (y378, (y384.drop (1 : Int).toNat), bt387.2.1, bt387.2.2)) else (none)) else (if bt387.1 = 2 then ((spec_l04AnyPoint.f k s0_0 bt387.2.1 bt387.2.2).bind fun bt400 => (if 0 < (y384.length : Int) then (some (y378, (y384.set (0 : Int).toNat (⟨bt400.1, bt400.2.1⟩ : S55)), bt400.2.2.1, bt400.2.2.2)) else (none))) else (if bt387.1 = 3 then (some (([] : List Int), ([] : List (S55)), bt387.2.1, bt387.2.2)) else (some (y378, y384, bt387.2.1, bt387.2.2))))))) = some (r1, r2, r3, r4) := by first | (rw [hy384]; with_reducible exact H) | (have H2_ := (Option.bind_some _ _).symm.trans H; rw [hy384]; with_reducible exact H2_) | (have H2_ := (Option.bind_some _ _).symm.trans H; with_reducible exact H2_) | with_reducible exact H | (rw [hy384]; exact H) | exact H
   have Ny384 := Aside0.mk hy384
   clear hy384
   replace H := Option.bind_eq_some_iff.mp H
   obtain ⟨⟨t387, t388, t389⟩, A50, H⟩ := H
   try dsimp only at H
   have A5 := Aside0.mk A50
   clear A50
   by_cases c6 : t387 = 0
   ·rw [if_pos c6] at H
    have c6b0 : (t387 == 0) = true := beq_iff_eq.mpr c6
    have c6b1 : (t387 != 0) = false := bne_eq_false_iff_eq.mpr c6
    clear c6
    replace H := Option.bind_eq_some_iff.mp H
    obtain ⟨⟨t390, t391, t392⟩, A70, H⟩ := H
    try dsimp only at H
    have A7 := Aside0.mk A70
    clear A70
    replace H := Option.bind_eq_some_iff.mp H
    obtain ⟨⟨t393, t394, t395⟩, A80, H⟩ := H
    try dsimp only at H
    have A8 := Aside0.mk A80
    clear A80
    by_cases c9 : 0 ≤ t390
    ·rw [if_pos c9] at H
     have c9b0 : decide (0 ≤ t390) = true := decide_eq_true c9
     clear c9
     by_cases c10 : t390 < (y378.length : Int)
     ·rw [if_pos c10] at H
      have c10b0 : decide (t390 < (y378.length : Int)) = true := decide_eq_true c10
      clear c10
      obtain ⟨y396, hy396⟩ : ∃ y_ : List Int, y_ = (y378.set (t390 : Int).toNat t393) := ⟨_, rfl⟩
      replace H : (some (y396, y384, t394, t395)) = some (r1, r2, r3, r4) := by first | (rw [hy396]; with_reducible exact H) | (have H2_ := (Option.bind_some _ _).symm.trans H; rw [hy396]; with_reducible exact H2_) | (have H2_ := (Option.bind_some _ _).symm.trans H; with_reducible exact H2_) | with_reducible exact H | (rw [hy396]; exact H) | exact H
      have Ny396 := Aside0.mk hy396
      clear hy396
      simp only [Option.some.injEq, Prod.mk.injEq] at H
      obtain ⟨rfl, rfl, rfl, rfl⟩ := H
      go_enter Tryd.func47, Tryd.ntmps47
      try go_wp2_with (first | ((with_reducible refine gate_dst (N := 2) rfl ?_); refine box_event ?hg (N := 2) ?hd (cs := #[.slice none 0 0, .slice none 0 0]) (t := 37) ?hr ?_; (case hd => rfl); (case hg => rfl); (case hr => first | (go_simp; done) | (go_simp; rfl)); intro gb365 hg w12 hbox hb; replace HB := Aside0.mk (below_step bI hb); have BK365 := Aside0.mk (hbox); have GW365 := Aside0.mk ((by rw [hg]; exact (kz w g) : w.heap.size ≤ gb365)); have GE365 := Aside0.mk ((Nat.le_trans HW0.out (by rw [hg]; exact (kz w g) : w.heap.size ≤ gb365) : w0.heap.size ≤ gb365)); replace HK := Aside0.mk (KeepBut.trans kS (KeepBut.of_below hb g none) (.inl rfl)); have NB0_365 := Aside0.mk ((by rw [hg]; exact Nat.ne_of_lt (IsS92.lt (show IsS92 w0 _ g s0_0 s0_1 s0_2 from iS)) : g ≠ gb365)); have NB365_0 := Aside0.mk ((by rw [hg]; exact Nat.ne_of_gt (IsS92.lt (show IsS92 w0 _ g s0_0 s0_1 s0_2 from iS)) : gb365 ≠ g)); replace HI0 := Aside0.mk (IsS92.below iS hb); clear hb hbox hg) | ((with_reducible refine gate_callee (f := 68) rfl ?_); refine goesL_ (some 5) rfl rfl Tryd.func68 (by kernel_rfl) rfl #[.pointer (some ⟨g, 0, none⟩)] rfl lm_ ?_; (with_reducible refine (spec_l06Path.calls k g s0_0 s0_1 s0_2 t366 t369 t372 t373 w0 _ ?side1 ?side2 A2.out).mono ?_); (case side1 => exact iS); (case side2 => exact bI); rintro e w13 ⟨v367, v370, rfl, ho0, ho1, hi, hb, hk⟩; refine ⟨_, rfl, ?_⟩; replace BK365 := Aside0.mk (KeepBut.blk hk BK365.out NB365_0.out (by simp)); have HO368 := Aside0.mk (Kd.R_lower ho0 (kz w g)); have HO371 := Aside0.mk (Kd.R_lower ho1 (kz w g)); replace HK := Aside0.mk (KeepBut.trans kS hk (.inl rfl)); replace HB := Aside0.mk (hb); replace HI0 := Aside0.mk (hi); (try clear hb hk hi ho0 ho1)) | ((with_reducible refine gate_dst (N := 3) rfl ?_); refine box_event ?hg (N := 3) ?hd (cs := #[.slice none 0 0, .slice none 0 0]) (t := 37) ?hr ?_; (case hd => rfl); (case hg => rfl); (case hr => first | (go_simp; done) | (go_simp; rfl)); intro gb374 hg w14 hbox hb; replace HO368 := Aside0.mk (Kd.R_below (rr_ HO368.out) hb); replace HO371 := Aside0.mk (Kd.R_below (rr_ HO371.out) hb); replace HB := Aside0.mk (below_step bI hb); have BK374 := Aside0.mk (hbox); have GW374 := Aside0.mk ((by rw [hg]; exact (kz w g) : w.heap.size ≤ gb374)); have GE374 := Aside0.mk ((Nat.le_trans HW0.out (by rw [hg]; exact (kz w g) : w.heap.size ≤ gb374) : w0.heap.size ≤ gb374)); replace HK := Aside0.mk (KeepBut.trans kS (KeepBut.of_below hb g none) (.inl rfl)); have NB365_374 := Aside0.mk ((by rw [hg]; exact Nat.ne_of_lt (blk_lt BK365.out) : gb365 ≠ gb374)); have NB374_365 := Aside0.mk ((by rw [hg]; exact Nat.ne_of_gt (blk_lt BK365.out) : gb374 ≠ gb365)); replace BK365 := Aside0.mk (blk_below BK365.out hb); have NB0_374 := Aside0.mk ((by rw [hg]; exact Nat.ne_of_lt (IsS92.lt (show IsS92 w0 _ g s0_0 t372 t373 from iS)) : g ≠ gb374)); have NB374_0 := Aside0.mk ((by rw [hg]; exact Nat.ne_of_gt (IsS92.lt (show IsS92 w0 _ g s0_0 t372 t373 from iS)) : gb374 ≠ g)); replace HI0 := Aside0.mk (IsS92.below iS hb); clear hb hbox hg; obtain ⟨Ao15, co15, eo15⟩ := Kd.R_slice HO368.out; subst eo15; have hnb16 := NB374_365.out; have hnc16 := NB365_374.out; have hnb17 := NB374_0.out; have hnc17 := NB0_374.out; have hcz18_0 : w14.cell? ⟨gb374, 0, none⟩ = some (.slice none 0 0) := (blk_cell BK374.out 0).trans rfl; have hcz18_1 : w14.cell? ⟨gb374, 1, none⟩ = some (.slice none 0 0) := (blk_cell BK374.out 1).trans rfl; have hfz18_0 := blk_frozen BK374.out 0; have hfz18_1 := blk_frozen BK374.out 1; obtain ⟨Ao19, co19, eo19⟩ := Kd.R_slice HO371.out; subst eo19))
      have n0_ : Aside0 (Kd.R (Kd.int .i64) 3 ((w14.setCell ⟨gb374, 0, none⟩ (.slice Ao15 t366.length co15)).setCell ⟨gb374, 1, none⟩ (.slice Ao19 t369.length co19)) w.heap.size (fun _ => True) (.slice Ao15 t366.length co15) t366) := ⟨by refine rr_ ?_; exact Kd.R_mono (Kd.R_far (p := ⟨gb374, 1, none⟩) (Kd.R_far (p := ⟨gb374, 0, none⟩) (Kd.R_types HO368.out BK374.out (by decide)) (fun _ hk => hk.2) (.slice Ao15 t366.length co15)) (fun _ hk => hk.2) (.slice Ao19 t369.length co19)) (fun _ hk => trivial)⟩
      have n1_ : Aside0 (Kd.R k55 55 ((w14.setCell ⟨gb374, 0, none⟩ (.slice Ao15 t366.length co15)).setCell ⟨gb374, 1, none⟩ (.slice Ao19 t369.length co19)) w.heap.size (fun _ => True) (.slice Ao19 t369.length co19) t369) := ⟨by refine rr_ ?_; exact Kd.R_mono (Kd.R_far (p := ⟨gb374, 1, none⟩) (Kd.R_far (p := ⟨gb374, 0, none⟩) (Kd.R_types HO371.out BK374.out (by decide)) (fun _ hk => hk.2) (.slice Ao15 t366.length co15)) (fun _ hk => hk.2) (.slice Ao19 t369.length co19)) (fun _ hk => trivial)⟩
      have n2_ : Aside0 (((w14.setCell ⟨gb374, 0, none⟩ (.slice Ao15 t366.length co15)).setCell ⟨gb374, 1, none⟩ (.slice Ao19 t369.length co19)).heap[gb365]? = some (.cells #[.slice none 0 0, .slice none 0 0] 37 (0, 0))) := ⟨bf_ BK365.out⟩
      have n3_ : Aside0 (((w14.setCell ⟨gb374, 0, none⟩ (.slice Ao15 t366.length co15)).setCell ⟨gb374, 1, none⟩ (.slice Ao19 t369.length co19)).heap[gb374]? = some (.cells #[.slice Ao15 t366.length co15, .slice Ao19 t369.length co19] 37 (0, 0))) := ⟨by refine bk_ ?_; refine blk_put (cs := #[.slice Ao15 t366.length co15, .slice none 0 0]) ?_ 1 _ rfl; refine bk_ ?_; refine blk_put (cs := #[.slice none 0 0, .slice none 0 0]) ?_ 0 _ rfl; exact bk_ BK374.out⟩
      have n4_ : Aside0 (IsS92 w0 ((w14.setCell ⟨gb374, 0, none⟩ (.slice Ao15 t366.length co15)).setCell ⟨gb374, 1, none⟩ (.slice Ao19 t369.length co19)) g s0_0 t372 t373) := ⟨iS⟩
      have n5_ : Aside0 (KeepBut w ((w14.setCell ⟨gb374, 0, none⟩ (.slice Ao15 t366.length co15)).setCell ⟨gb374, 1, none⟩ (.slice Ao19 t369.length co19)) g none) := ⟨kS⟩
      have n6_ : Aside0 (Below w0.heap.size w0 ((w14.setCell ⟨gb374, 0, none⟩ (.slice Ao15 t366.length co15)).setCell ⟨gb374, 1, none⟩ (.slice Ao19 t369.length co19))) := ⟨bI⟩
      (try clear HO368); (try clear HO371); (try clear BK365); (try clear BK374); (try clear HI0); (try clear HK); (try clear HB)
      generalize ((w14.setCell ⟨gb374, 0, none⟩ (.slice Ao15 t366.length co15)).setCell ⟨gb374, 1, none⟩ (.slice Ao19 t369.length co19)) = w20 at n0_ n1_ n2_ n3_ n4_ n5_ n6_ ⊢
      have HO368 := n0_
      have HO371 := n1_
      have BK365 := n2_
      have BK374 := n3_
      have HI0 := n4_
      have HK := n5_
      have HB := n6_
      clear n0_ n1_ n2_ n3_ n4_ n5_ n6_
      replace HO368 := Aside0.mk (Kd.R_drew HO368.out)
      replace HO371 := Aside0.mk (Kd.R_drew HO371.out)
      replace BK365 := Aside0.mk (blk_drew BK365.out)
      replace BK374 := Aside0.mk (blk_drew BK374.out)
      replace HI0 := Aside0.mk (IsS92.drew HI0.out)
      replace HK := Aside0.mk (keep_drew HK.out)
      replace HB := Aside0.mk (below_drew1 HB.out)
      refine start_ (n := 10) (S := fun w' => w'.cell? ⟨gb374, 0, none⟩ = some (.slice Ao15 t366.length co15) ∧ w'.cell? ⟨gb374, 1, none⟩ = some (.slice Ao19 t369.length co19)) (ds := [9]) #[F,F,F,F,F,F,F,F,F,F] (by kernel_rfl) rfl rfl ⟨(blk_cell BK374.out 0).trans rfl, (blk_cell BK374.out 1).trans rfl⟩ (fun hHeld => ?_); refine with_tabW spec_l06Any.tab2 spec_l06Any.bits2 (fun HT_ HW_ => ?_)
      generalize w20.drew = w21 at HO368 HO371 BK365 BK374 HI0 HK HB hHeld ⊢
      refine pure_ (i := 1) (N := some 7) (v := ?_) (a' := ?_) #[F,T,F,F,F,F,F,F,F,F] rfl rfl (any_of HT_.out (by kernel_rfl)) (fun _ _ _ h => h) (Or.inl ⟨by rfl, ?_⟩) ?_ ?_; rotate_left
      ·intro w'; go_simp; with_reducible rfl
      rotate_left
      ·simp only [PS]; rfl
      refine pure_ (i := 5) (N := some 11) (v := ?_) (a' := ?_) #[F,T,F,F,F,T,F,F,F,F] rfl rfl (any_of HT_.out (by kernel_rfl)) (fun _ _ _ h => h) (Or.inl ⟨by rfl, ?_⟩) ?_ ?_; rotate_left
      ·intro w'; go_simp; with_reducible rfl
      rotate_left
      ·simp only [PS]; rfl
      refine take_ (i := 2) (N := some 8) (v := ?_) (a' := ?_) #[F,T,T,F,F,T,F,F,F,F] rfl rfl (take_ofW HT_.out HW_.out (by kernel_rfl)) (fun _ _ _ h => h) (Or.inl ⟨by rfl, ?_⟩) hHeld ?_ ?_; rotate_left
      ·rintro w' ⟨s0, s1⟩; go_simp; with_reducible rfl
      rotate_left
      ·simp only [PS]; rfl
      refine take_ (i := 6) (N := some 12) (v := ?_) (a' := ?_) #[F,T,T,F,F,T,T,F,F,F] rfl rfl (take_ofW HT_.out HW_.out (by kernel_rfl)) (fun _ _ _ h => h) (Or.inl ⟨by rfl, ?_⟩) hHeld ?_ ?_; rotate_left
      ·rintro w' ⟨s0, s1⟩; go_simp; with_reducible rfl
      rotate_left
      ·simp only [PS]; rfl
      refine join_ (σ := Value × Value × Value) 3 #[T,T,T,T,T,T,T,F,F,F] (fun s_ => [(6, s_.1), (9, s_.2.1), (10, s_.2.2)]) (fun s_ w' => (w'.cell? ⟨gb374, 0, none⟩ = some (.slice Ao15 t366.length co15) ∧ w'.cell? ⟨gb374, 1, none⟩ = some (.slice Ao19 t369.length co19)) ∧ (Kd.R (Kd.int .i64) 3 w' w.heap.size (fun k_ => some k_ ≠ (s_.2.1 : Value).ownBlock) (.slice Ao15 t366.length co15) t366) ∧ (Kd.R k55 55 w' w.heap.size (fun k_ => some k_ ≠ (s_.2.2 : Value).ownBlock) (.slice Ao19 t369.length co19) t369) ∧ (Kd.R (Kd.int .i64) 3 w' w.heap.size (fun k_ => some k_ ≠ (.slice Ao15 t366.length co15 : Value).ownBlock) s_.2.1 y378) ∧ (Kd.R k55 55 w' w.heap.size (fun k_ => some k_ ≠ (.slice Ao19 t369.length co19 : Value).ownBlock) s_.2.2 y381) ∧ (w'.heap[gb365]? = some (.cells #[.slice none 0 0, .slice none 0 0] 37 (0, 0))) ∧ (w'.heap[gb374]? = some (.cells #[.slice Ao15 t366.length co15, .slice Ao19 t369.length co19] 37 (0, 0))) ∧ (IsS92 w0 w' g s0_0 t372 t373) ∧ (KeepBut w w' g none) ∧ (Below w0.heap.size w0 w')) ?_ ?_
      rotate_left
      ·intro hCont
       refine two_ (i := 0) (j := 4) (Ni := some 6) (Nj := some 10) #[T,T,T,F,F,T,T,F,F,F] #[F,T,T,F,T,T,T,F,F,F] rfl rfl rfl rfl (two_of HT_.out (by kernel_rfl)) (by decide) (by decide) (fun K hK => ?_) (fun K hK => ?_)
       ·skip
        refine Kd.R_lit_step (Kd.int .i64) _ 3 ?hg (N := 6) ?hd (xs := ([] : List Int)) (inner := []) (ok := fun _ => True) (okp := fun _ => True) ?hr ?hp (fun _ hk => hk) trivial (Below.refl _ _) (Nat.le_refl _) (by simp) ?_; (case hd => rfl); (case hg => rfl); (case hr => first | (go_simp; done) | (go_simp; rfl)); (case hp => exact (Reps.none _ _))
        intro v376 w22 ho23 hb hg_ hnew_
        clear hg_ hnew_
        (first | rw [← Ny375.out] at ho23 | (simp only [Int.reduceToNat] at ho23; rw [← Ny375.out] at ho23))
        replace HO371 := Aside0.mk (Kd.R_below (rr_ HO371.out) hb)
        have HO377 := Aside0.mk (Kd.R_lower (Kd.R_new' ho23 (Kd.R_lt (rr_ HO368.out))) (kz w g))
        replace HO368 := Aside0.mk (Kd.R_elder' (rr_ HO368.out) (Kd.R_base ho23) hb)
        replace BK365 := Aside0.mk (blk_below BK365.out hb)
        replace BK374 := Aside0.mk (blk_below BK374.out hb)
        replace HK := Aside0.mk (KeepBut.trans kS (KeepBut.of_below hb g none) (.inl rfl))
        replace HB := Aside0.mk (below_step bI hb)
        replace HI0 := Aside0.mk (IsS92.below iS hb)
        clear hb ho23
        refine hK.out _ _ ⟨(blk_cell BK374.out 0).trans rfl, (blk_cell BK374.out 1).trans rfl⟩ (fun hHeld => ?_)
        clear hK K
        refine norm_ (a' := ?_) ?_ ?_; rotate_left
        ·show Act.put _ (some 6) _ = _
         simp only [PS]
         rfl
        refine two_ (i := 3) (j := 4) (Ni := some 9) (Nj := some 10) #[T,T,T,T,F,T,T,F,F,F] #[T,T,T,F,T,T,T,F,F,F] rfl rfl rfl rfl (two_of HT_.out (by kernel_rfl)) (by decide) (by decide) (fun K hK => ?_) (fun K hK => ?_)
        ·skip
         refine Kd.R_append_rows_step (Kd.int .i64) w.heap.size (by rfl) (.tmp 6) (.tmp 8) 28 3 (.int .i64 0) 8 rfl Tryd.underlying28 info3 rfl (by decide) (by omega) v376 y375 t366 _ _ _ (fun k_ => some k_ ≠ (.slice Ao15 t366.length co15 : Value).ownBlock) (fun _ => False) rfl rfl ?aO ?aR (fun _ _ h => h) (fun _ h => h.elim) ?aF (Below.refl _ _) ?aS ?aL ?_
         (case aR => exact cc_ (Kd.R_reads' HO368.out).2.2)
         (case aF => exact (fun k_ hk => Kd.fresh' (Kd.R_lt (rr_ HO368.out)) k_ hk))
         (case aO => exact (by refine rr_ ?_; exact Kd.R_mono HO377.out (fun _ hk => hk.2)))
         (case aS => exact (kz w g))
         (case aL => have := LMc3.out; omega)
         intro v379 w24 ho hb hg hat
         rw [← Ny378.out] at ho
         have n0_ := Aside0.mk (IsS92.grown iS hg (IsS92.own_ne HI0.out HO377.out (by decide)))
         have n1_ := Aside0.mk (blk_grown BK365.out hg (Kd.R_ne HO377.out BK365.out (by decide)))
         have n2_ := Aside0.mk (Kd.R_after (ok := (fun _ => True)) (rr_ HO368.out) hg hat)
         have n3_ := Aside0.mk (Kd.R_over' (rr_ HO371.out) (Kd.R_typed (rr_ HO377.out)) (by decide) hg)
         have n4_ := Aside0.mk (blk_grown BK374.out hg (Kd.R_ne HO377.out BK374.out (by decide)))
         have n5_ := Aside0.mk (below_weaken bI HL.out hb)
         have n6_ := Aside0.mk (KeepBut.trans kS (KeepBut.of_grown hg g) (Kd.R_base2 HO377.out))
         have n7_ := Aside0.mk (ho)
         clear HI0 BK365 HO368 HO371 BK374 HB HK HO377
         have HI0 := n0_
         have BK365 := n1_
         have HO368 := n2_
         have HO371 := n3_
         have BK374 := n4_
         have HB := n5_
         have HK := n6_
         have HO380 := n7_
         clear n0_ n1_ n2_ n3_ n4_ n5_ n6_ n7_ ho hb hg hat
         refine hK.out _ _ ⟨(blk_cell BK374.out 0).trans rfl, (blk_cell BK374.out 1).trans rfl⟩ (fun hHeld => ?_)
         clear hK K
         refine norm_ (a' := ?_) ?_ ?_; rotate_left
         ·show Act.put _ (some 9) _ = _
          simp only [PS]
          rfl
         refine one_ (i := 4) (N := some 10) #[T,T,T,T,T,T,T,F,F,F] rfl rfl (one_of HT_.out (by kernel_rfl)) (by decide) (fun K hK => ?_)
         refine Kd.R_lit_step k55 _ 55 ?hg (N := 10) ?hd (xs := ([] : List (S55))) (inner := []) (ok := fun _ => True) (okp := fun _ => True) ?hr ?hp (fun _ hk => hk) trivial (Below.refl _ _) (Nat.le_refl _) (by simp) ?_; (case hd => rfl); (case hg => rfl); (case hr => first | (go_simp; done) | (go_simp; rfl)); (case hp => exact (Reps.none _ _))
         intro v382 w25 ho26 hb hg_ hnew_
         clear hg_ hnew_
         (first | rw [← Ny381.out] at ho26 | (simp only [Int.reduceToNat] at ho26; rw [← Ny381.out] at ho26))
         replace HO368 := Aside0.mk (Kd.R_below (rr_ HO368.out) hb)
         replace HO380 := Aside0.mk (Kd.R_below (rr_ HO380.out) hb)
         have HO383 := Aside0.mk (Kd.R_lower (Kd.R_new' ho26 (Kd.R_lt (rr_ HO371.out))) (kz w g))
         replace HO371 := Aside0.mk (Kd.R_elder' (rr_ HO371.out) (Kd.R_base ho26) hb)
         replace BK365 := Aside0.mk (blk_below BK365.out hb)
         replace BK374 := Aside0.mk (blk_below BK374.out hb)
         replace HK := Aside0.mk (KeepBut.trans kS (KeepBut.of_below hb g none) (.inl rfl))
         replace HB := Aside0.mk (below_step bI hb)
         replace HI0 := Aside0.mk (IsS92.below iS hb)
         clear hb ho26
         refine hK.out _ _ ⟨(blk_cell BK374.out 0).trans rfl, (blk_cell BK374.out 1).trans rfl⟩ (fun hHeld => ?_)
         clear hK K
         refine norm_ (a' := ?_) ?_ ?_; rotate_left
         ·show Act.put _ (some 10) _ = _
          simp only [PS]
          rfl
         exact norm_ (by simp only [putAll, Act.put, List.setIfInBounds_toArray, List.set_cons_zero, List.set_cons_succ]) (hCont (v376, v379, v382) _ ⟨hHeld, (by refine rr_ ?_; exact Kd.R_mono HO368.out (fun _ hk => hk.2)), (by refine rr_ ?_; exact Kd.R_mono HO371.out (fun _ hk => hk.2)), (rr_ HO380.out), (by refine rr_ ?_; exact Kd.R_mono HO383.out (fun _ hk => hk.2)), (by exact BK365.out), (by exact BK374.out), iS, kS, bI⟩)
        ·skip
         refine Kd.R_lit_step k55 _ 55 ?hg (N := 10) ?hd (xs := ([] : List (S55))) (inner := []) (ok := fun _ => True) (okp := fun _ => True) ?hr ?hp (fun _ hk => hk) trivial (Below.refl _ _) (Nat.le_refl _) (by simp) ?_; (case hd => rfl); (case hg => rfl); (case hr => first | (go_simp; done) | (go_simp; rfl)); (case hp => exact (Reps.none _ _))
         intro v382 w24 ho25 hb hg_ hnew_
         clear hg_ hnew_
         (first | rw [← Ny381.out] at ho25 | (simp only [Int.reduceToNat] at ho25; rw [← Ny381.out] at ho25))
         replace HO368 := Aside0.mk (Kd.R_below (rr_ HO368.out) hb)
         replace HO377 := Aside0.mk (Kd.R_below (rr_ HO377.out) hb)
         have HO383 := Aside0.mk (Kd.R_lower (Kd.R_new' ho25 (Kd.R_lt (rr_ HO371.out))) (kz w g))
         replace HO371 := Aside0.mk (Kd.R_elder' (rr_ HO371.out) (Kd.R_base ho25) hb)
         replace BK365 := Aside0.mk (blk_below BK365.out hb)
         replace BK374 := Aside0.mk (blk_below BK374.out hb)
         replace HK := Aside0.mk (KeepBut.trans kS (KeepBut.of_below hb g none) (.inl rfl))
         replace HB := Aside0.mk (below_step bI hb)
         replace HI0 := Aside0.mk (IsS92.below iS hb)
         clear hb ho25
         refine hK.out _ _ ⟨(blk_cell BK374.out 0).trans rfl, (blk_cell BK374.out 1).trans rfl⟩ (fun hHeld => ?_)
         clear hK K
         refine norm_ (a' := ?_) ?_ ?_; rotate_left
         ·show Act.put _ (some 10) _ = _
          simp only [PS]
          rfl
         refine one_ (i := 3) (N := some 9) #[T,T,T,T,T,T,T,F,F,F] rfl rfl (one_of HT_.out (by kernel_rfl)) (by decide) (fun K hK => ?_)
         refine Kd.R_append_rows_step (Kd.int .i64) w.heap.size (by rfl) (.tmp 6) (.tmp 8) 28 3 (.int .i64 0) 8 rfl Tryd.underlying28 info3 rfl (by decide) (by omega) v376 y375 t366 _ _ _ (fun k_ => some k_ ≠ (.slice Ao15 t366.length co15 : Value).ownBlock) (fun _ => False) rfl rfl ?aO ?aR (fun _ _ h => h) (fun _ h => h.elim) ?aF (Below.refl _ _) ?aS ?aL ?_
         (case aR => exact cc_ (Kd.R_reads' HO368.out).2.2)
         (case aF => exact (fun k_ hk => Kd.fresh' (Kd.R_lt (rr_ HO368.out)) k_ hk))
         (case aO => exact (by refine rr_ ?_; exact Kd.R_mono HO377.out (fun _ hk => hk.2)))
         (case aS => exact (kz w g))
         (case aL => have := LMc3.out; omega)
         intro v379 w26 ho hb hg hat
         rw [← Ny378.out] at ho
         have n0_ := Aside0.mk (IsS92.grown iS hg (IsS92.own_ne HI0.out HO377.out (by decide)))
         have n1_ := Aside0.mk (blk_grown BK365.out hg (Kd.R_ne HO377.out BK365.out (by decide)))
         have n2_ := Aside0.mk (Kd.R_after (ok := (fun _ => True)) (rr_ HO368.out) hg hat)
         have n3_ := Aside0.mk (Kd.R_over' (rr_ HO371.out) (Kd.R_typed (rr_ HO377.out)) (by decide) hg)
         have n4_ := Aside0.mk (blk_grown BK374.out hg (Kd.R_ne HO377.out BK374.out (by decide)))
         have n5_ := Aside0.mk (Kd.R_over' (rr_ HO383.out) (Kd.R_typed (rr_ HO377.out)) (by decide) hg)
         have n6_ := Aside0.mk (below_weaken bI HL.out hb)
         have n7_ := Aside0.mk (KeepBut.trans kS (KeepBut.of_grown hg g) (Kd.R_base2 HO377.out))
         have n8_ := Aside0.mk (ho)
         clear HI0 BK365 HO368 HO371 BK374 HO383 HB HK HO377
         have HI0 := n0_
         have BK365 := n1_
         have HO368 := n2_
         have HO371 := n3_
         have BK374 := n4_
         have HO383 := n5_
         have HB := n6_
         have HK := n7_
         have HO380 := n8_
         clear n0_ n1_ n2_ n3_ n4_ n5_ n6_ n7_ n8_ ho hb hg hat
         refine hK.out _ _ ⟨(blk_cell BK374.out 0).trans rfl, (blk_cell BK374.out 1).trans rfl⟩ (fun hHeld => ?_)
         clear hK K
         refine norm_ (a' := ?_) ?_ ?_; rotate_left
         ·show Act.put _ (some 9) _ = _
          simp only [PS]
          rfl
         exact norm_ (by simp only [putAll, Act.put, List.setIfInBounds_toArray, List.set_cons_zero, List.set_cons_succ]) (hCont (v376, v379, v382) _ ⟨hHeld, (by refine rr_ ?_; exact Kd.R_mono HO368.out (fun _ hk => hk.2)), (by refine rr_ ?_; exact Kd.R_mono HO371.out (fun _ hk => hk.2)), (rr_ HO380.out), (by refine rr_ ?_; exact Kd.R_mono HO383.out (fun _ hk => hk.2)), (by exact BK365.out), (by exact BK374.out), iS, kS, bI⟩)
       ·skip
        refine Kd.R_lit_step k55 _ 55 ?hg (N := 10) ?hd (xs := ([] : List (S55))) (inner := []) (ok := fun _ => True) (okp := fun _ => True) ?hr ?hp (fun _ hk => hk) trivial (Below.refl _ _) (Nat.le_refl _) (by simp) ?_; (case hd => rfl); (case hg => rfl); (case hr => first | (go_simp; done) | (go_simp; rfl)); (case hp => exact (Reps.none _ _))
        intro v382 w22 ho23 hb hg_ hnew_
        clear hg_ hnew_
        (first | rw [← Ny381.out] at ho23 | (simp only [Int.reduceToNat] at ho23; rw [← Ny381.out] at ho23))
        replace HO368 := Aside0.mk (Kd.R_below (rr_ HO368.out) hb)
        have HO383 := Aside0.mk (Kd.R_lower (Kd.R_new' ho23 (Kd.R_lt (rr_ HO371.out))) (kz w g))
        replace HO371 := Aside0.mk (Kd.R_elder' (rr_ HO371.out) (Kd.R_base ho23) hb)
        replace BK365 := Aside0.mk (blk_below BK365.out hb)
        replace BK374 := Aside0.mk (blk_below BK374.out hb)
        replace HK := Aside0.mk (KeepBut.trans kS (KeepBut.of_below hb g none) (.inl rfl))
        replace HB := Aside0.mk (below_step bI hb)
        replace HI0 := Aside0.mk (IsS92.below iS hb)
        clear hb ho23
        refine hK.out _ _ ⟨(blk_cell BK374.out 0).trans rfl, (blk_cell BK374.out 1).trans rfl⟩ (fun hHeld => ?_)
        clear hK K
        refine norm_ (a' := ?_) ?_ ?_; rotate_left
        ·show Act.put _ (some 10) _ = _
         simp only [PS]
         rfl
        refine one_ (i := 0) (N := some 6) #[T,T,T,F,T,T,T,F,F,F] rfl rfl (one_of HT_.out (by kernel_rfl)) (by decide) (fun K hK => ?_)
        refine Kd.R_lit_step (Kd.int .i64) _ 3 ?hg (N := 6) ?hd (xs := ([] : List Int)) (inner := []) (ok := fun _ => True) (okp := fun _ => True) ?hr ?hp (fun _ hk => hk) trivial (Below.refl _ _) (Nat.le_refl _) (by simp) ?_; (case hd => rfl); (case hg => rfl); (case hr => first | (go_simp; done) | (go_simp; rfl)); (case hp => exact (Reps.none _ _))
        intro v376 w24 ho25 hb hg_ hnew_
        clear hg_ hnew_
        (first | rw [← Ny375.out] at ho25 | (simp only [Int.reduceToNat] at ho25; rw [← Ny375.out] at ho25))
        replace HO371 := Aside0.mk (Kd.R_below (rr_ HO371.out) hb)
        replace HO383 := Aside0.mk (Kd.R_below (rr_ HO383.out) hb)
        have HO377 := Aside0.mk (Kd.R_lower (Kd.R_new' ho25 (Kd.R_lt (rr_ HO368.out))) (kz w g))
        replace HO368 := Aside0.mk (Kd.R_elder' (rr_ HO368.out) (Kd.R_base ho25) hb)
        replace BK365 := Aside0.mk (blk_below BK365.out hb)
        replace BK374 := Aside0.mk (blk_below BK374.out hb)
        replace HK := Aside0.mk (KeepBut.trans kS (KeepBut.of_below hb g none) (.inl rfl))
        replace HB := Aside0.mk (below_step bI hb)
        replace HI0 := Aside0.mk (IsS92.below iS hb)
        clear hb ho25
        refine hK.out _ _ ⟨(blk_cell BK374.out 0).trans rfl, (blk_cell BK374.out 1).trans rfl⟩ (fun hHeld => ?_)
        clear hK K
        refine norm_ (a' := ?_) ?_ ?_; rotate_left
        ·show Act.put _ (some 6) _ = _
         simp only [PS]
         rfl
        refine one_ (i := 3) (N := some 9) #[T,T,T,T,T,T,T,F,F,F] rfl rfl (one_of HT_.out (by kernel_rfl)) (by decide) (fun K hK => ?_)
        refine Kd.R_append_rows_step (Kd.int .i64) w.heap.size (by rfl) (.tmp 6) (.tmp 8) 28 3 (.int .i64 0) 8 rfl Tryd.underlying28 info3 rfl (by decide) (by omega) v376 y375 t366 _ _ _ (fun k_ => some k_ ≠ (.slice Ao15 t366.length co15 : Value).ownBlock) (fun _ => False) rfl rfl ?aO ?aR (fun _ _ h => h) (fun _ h => h.elim) ?aF (Below.refl _ _) ?aS ?aL ?_
        (case aR => exact cc_ (Kd.R_reads' HO368.out).2.2)
        (case aF => exact (fun k_ hk => Kd.fresh' (Kd.R_lt (rr_ HO368.out)) k_ hk))
        (case aO => exact (by refine rr_ ?_; exact Kd.R_mono HO377.out (fun _ hk => hk.2)))
        (case aS => exact (kz w g))
        (case aL => have := LMc3.out; omega)
        intro v379 w26 ho hb hg hat
        rw [← Ny378.out] at ho
        have n0_ := Aside0.mk (IsS92.grown iS hg (IsS92.own_ne HI0.out HO377.out (by decide)))
        have n1_ := Aside0.mk (blk_grown BK365.out hg (Kd.R_ne HO377.out BK365.out (by decide)))
        have n2_ := Aside0.mk (Kd.R_after (ok := (fun _ => True)) (rr_ HO368.out) hg hat)
        have n3_ := Aside0.mk (Kd.R_over' (rr_ HO371.out) (Kd.R_typed (rr_ HO377.out)) (by decide) hg)
        have n4_ := Aside0.mk (blk_grown BK374.out hg (Kd.R_ne HO377.out BK374.out (by decide)))
        have n5_ := Aside0.mk (Kd.R_over' (rr_ HO383.out) (Kd.R_typed (rr_ HO377.out)) (by decide) hg)
        have n6_ := Aside0.mk (below_weaken bI HL.out hb)
        have n7_ := Aside0.mk (KeepBut.trans kS (KeepBut.of_grown hg g) (Kd.R_base2 HO377.out))
        have n8_ := Aside0.mk (ho)
        clear HI0 BK365 HO368 HO371 BK374 HO383 HB HK HO377
        have HI0 := n0_
        have BK365 := n1_
        have HO368 := n2_
        have HO371 := n3_
        have BK374 := n4_
        have HO383 := n5_
        have HB := n6_
        have HK := n7_
        have HO380 := n8_
        clear n0_ n1_ n2_ n3_ n4_ n5_ n6_ n7_ n8_ ho hb hg hat
        refine hK.out _ _ ⟨(blk_cell BK374.out 0).trans rfl, (blk_cell BK374.out 1).trans rfl⟩ (fun hHeld => ?_)
        clear hK K
        refine norm_ (a' := ?_) ?_ ?_; rotate_left
        ·show Act.put _ (some 9) _ = _
         simp only [PS]
         rfl
        exact norm_ (by simp only [putAll, Act.put, List.setIfInBounds_toArray, List.set_cons_zero, List.set_cons_succ]) (hCont (v376, v379, v382) _ ⟨hHeld, (by refine rr_ ?_; exact Kd.R_mono HO368.out (fun _ hk => hk.2)), (by refine rr_ ?_; exact Kd.R_mono HO371.out (fun _ hk => hk.2)), (rr_ HO380.out), (by refine rr_ ?_; exact Kd.R_mono HO383.out (fun _ hk => hk.2)), (by exact BK365.out), (by exact BK374.out), iS, kS, bI⟩)
      rintro ⟨v376, v379, v382⟩ w27 ⟨hS_, h0_, h1_, h2_, h3_, h4_, h5_, h6_, h7_, h8_⟩
      have n0_ : Aside0 (Kd.R (Kd.int .i64) 3 w27 w.heap.size (fun k_ => some k_ ≠ (v379 : Value).ownBlock) (.slice Ao15 t366.length co15) t366) := ⟨h0_⟩
      have n1_ : Aside0 (Kd.R k55 55 w27 w.heap.size (fun k_ => some k_ ≠ (v382 : Value).ownBlock) (.slice Ao19 t369.length co19) t369) := ⟨h1_⟩
      have n2_ : Aside0 (Kd.R (Kd.int .i64) 3 w27 w.heap.size (fun k_ => some k_ ≠ (.slice Ao15 t366.length co15 : Value).ownBlock) v379 y378) := ⟨h2_⟩
      have n3_ : Aside0 (Kd.R k55 55 w27 w.heap.size (fun k_ => some k_ ≠ (.slice Ao19 t369.length co19 : Value).ownBlock) v382 y381) := ⟨h3_⟩
      have n4_ : Aside0 (w27.heap[gb365]? = some (.cells #[.slice none 0 0, .slice none 0 0] 37 (0, 0))) := ⟨h4_⟩
      have n5_ : Aside0 (w27.heap[gb374]? = some (.cells #[.slice Ao15 t366.length co15, .slice Ao19 t369.length co19] 37 (0, 0))) := ⟨h5_⟩
      have n6_ : Aside0 (IsS92 w0 w27 g s0_0 t372 t373) := ⟨h6_⟩
      have n7_ : Aside0 (KeepBut w w27 g none) := ⟨h7_⟩
      have n8_ : Aside0 (Below w0.heap.size w0 w27) := ⟨h8_⟩
      clear HO368 HO371 BK365 BK374 HI0 HK HB h0_ h1_ h2_ h3_ h4_ h5_ h6_ h7_ h8_
      have HO368 := n0_
      have HO371 := n1_
      have HO380 := n2_
      have HO383 := n3_
      have BK365 := n4_
      have BK374 := n5_
      have HI0 := n6_
      have HK := n7_
      have HB := n8_
      clear n0_ n1_ n2_ n3_ n4_ n5_ n6_ n7_ n8_
      have hHeld : w27.cell? ⟨gb374, 0, none⟩ = some (.slice Ao15 t366.length co15) ∧ w27.cell? ⟨gb374, 1, none⟩ = some (.slice Ao19 t369.length co19) := hS_
      refine norm_ (a' := ?_) ?_ ?_; rotate_left
      ·simp only [putAll, Act.put, List.setIfInBounds_toArray, List.set_cons_zero, List.set_cons_succ]
       rfl
      refine one_ (i := 7) (N := some 13) #[T,T,T,T,T,T,T,T,F,F] rfl rfl (one_of HT_.out (by kernel_rfl)) (by decide) (fun K hK => ?_)
      refine Kd.R_append_rows_step k55 w.heap.size (by rfl) (.tmp 10) (.tmp 12) 35 55 (.agg #[(.int .i64 0), (.int .i64 0)]) 16 rfl Tryd.underlying35 info55 rfl (by decide) (by omega) v382 y381 t369 _ _ _ (fun k_ => some k_ ≠ (.slice Ao19 t369.length co19 : Value).ownBlock) (fun _ => False) rfl rfl ?aO ?aR (fun _ _ h => h) (fun _ h => h.elim) ?aF (Below.refl _ _) ?aS ?aL ?_
      (case aR => exact cc_ (Kd.R_reads' HO371.out).2.2)
      (case aF => exact (fun k_ hk => Kd.fresh' (Kd.R_lt (rr_ HO371.out)) k_ hk))
      (case aO => exact (rr_ HO383.out))
      (case aS => exact (kz w g))
      (case aL => have := LMc4.out; omega)
      intro v385 w28 ho hb hg hat
      rw [← Ny384.out] at ho
      have n0_ := Aside0.mk (IsS92.grown iS hg (IsS92.own_ne HI0.out HO383.out (by decide)))
      have n1_ := Aside0.mk (blk_grown BK365.out hg (Kd.R_ne HO383.out BK365.out (by decide)))
      have n2_ := Aside0.mk (Kd.R_over' (rr_ HO368.out) (Kd.R_typed (rr_ HO383.out)) (by decide) hg)
      have n3_ := Aside0.mk (Kd.R_after (ok := (fun _ => True)) (by refine rr_ ?_; exact Kd.R_mono HO371.out (fun _ hk => ⟨trivial, hk⟩)) hg hat)
      have n4_ := Aside0.mk (blk_grown BK374.out hg (Kd.R_ne HO383.out BK374.out (by decide)))
      have n5_ := Aside0.mk (Kd.R_over' (rr_ HO380.out) (Kd.R_typed (rr_ HO383.out)) (by decide) hg)
      have n6_ := Aside0.mk (below_weaken bI HL.out hb)
      have n7_ := Aside0.mk (KeepBut.trans kS (KeepBut.of_grown hg g) (Kd.R_base2 HO383.out))
      have n8_ := Aside0.mk (ho)
      clear HI0 BK365 HO368 HO371 BK374 HO380 HB HK HO383
      have HI0 := n0_
      have BK365 := n1_
      have HO368 := n2_
      have HO371 := n3_
      have BK374 := n4_
      have HO380 := n5_
      have HB := n6_
      have HK := n7_
      have HO386 := n8_
      clear n0_ n1_ n2_ n3_ n4_ n5_ n6_ n7_ n8_ ho hb hg hat
      obtain ⟨Ao29, co29, eo29⟩ := Kd.R_slice HO386.out
      (first | subst eo29 | (injection eo29 with f1_ f2_ f3_; have f4_ := f1_.symm; have f5_ := f3_.symm; clear f1_ f2_ f3_; subst f4_; subst f5_))
      obtain ⟨Ao30, co30, eo30⟩ := Kd.R_slice HO380.out
      (first | subst eo30 | (injection eo30 with f1_ f2_ f3_; have f4_ := f1_.symm; have f5_ := f3_.symm; clear f1_ f2_ f3_; subst f4_; subst f5_))
      refine hK.out _ _ ⟨(blk_cell BK374.out 0).trans rfl, (blk_cell BK374.out 1).trans rfl⟩ (fun hHeld => ?_)
      clear hK K
      refine norm_ (a' := ?_) ?_ ?_; rotate_left
      ·show Act.put _ (some 13) _ = _
       simp only [PS]
       rfl
      refine pure_ (i := 8) (N := some 14) (v := ?_) (a' := ?_) #[T,T,T,T,T,T,T,T,T,F] rfl rfl (any_of HT_.out (by kernel_rfl)) (fun _ _ _ h => h) (Or.inl ⟨by rfl, ?_⟩) ?_ ?_; rotate_left
      ·intro w'; go_simp; with_reducible rfl
      rotate_left
      ·simp only [PS]; rfl
      refine last_ (i := 9) (N := none) #[T,T,T,T,T,T,T,T,T,T] rfl rfl (one_of HT_.out (by kernel_rfl)) (by decide) (fun K hK => ?_)
      have hs31 : w28.cell? ⟨gb374, 0, none⟩ = some (.slice Ao15 t366.length co15) := (blk_cell BK374.out 0).trans rfl
      have hfs31 := blk_frozen BK374.out 0
      have hns31_0 := NB365_374.out
      have hms31_0 := NB374_365.out
      have hs32 : w28.cell? ⟨gb374, 1, none⟩ = some (.slice Ao19 t369.length co19) := (blk_cell BK374.out 1).trans rfl
      have hfs32 := blk_frozen BK374.out 1
      have hns32_0 := NB365_374.out
      have hms32_0 := NB374_365.out
      refine skip_ (w1 := ?_) (by rfl) rfl ?_ ?_; rotate_left
      ·go_simp
       rfl
      refine hK.out _ _ ?_
      clear hK K
      refine done_ (done_of HT_.out (by kernel_rfl)) ?_
      try go_wp2_with (first | ((with_reducible refine gate_callee (f := 53) rfl ?_); refine goesL_ (some 16) rfl rfl Tryd.func53 (by kernel_rfl) rfl #[.pointer (some ⟨g, 0, none⟩), .int .i64 16] rfl lm_ ?_; (with_reducible refine (spec_l01Below.calls g s0_0 t372 t373 16 t387 t388 t389 w0 _ ?side1 ?side2 A5.out).mono ?_); (case side1 => exact iS); (case side2 => exact bI); rintro e w33 ⟨rfl, hi, hb, hk⟩; refine ⟨_, rfl, ?_⟩; replace BK365 := Aside0.mk (KeepBut.blk hk (bf_ BK365.out) NB365_0.out (by simp)); replace HO368 := Aside0.mk (Kd.R_mono (Kd.R_keep (IsS92.apart (show IsS92 w0 _ g s0_0 t372 t373 from iS) (by refine rr_ ?_; exact (Kd.R_mono (Kd.R_far (p := ⟨gb374, 1, none⟩) (Kd.R_far (p := ⟨gb374, 0, none⟩) (Kd.R_types HO368.out BK374.out (by decide)) (fun _ hk => hk.2) (.slice Ao30 y378.length co30)) (fun _ hk => hk.2) (.slice Ao29 y384.length co29)) (fun _ h_ => h_.1))) (by decide)) hk (fun _ h => h.2)) (fun _ h => h.1)); replace HO371 := Aside0.mk (Kd.R_mono (Kd.R_keep (IsS92.apart (show IsS92 w0 _ g s0_0 t372 t373 from iS) (by refine rr_ ?_; exact (Kd.R_mono (Kd.R_far (p := ⟨gb374, 1, none⟩) (Kd.R_far (p := ⟨gb374, 0, none⟩) (Kd.R_types HO371.out BK374.out (by decide)) (fun _ hk => hk.2) (.slice Ao30 y378.length co30)) (fun _ hk => hk.2) (.slice Ao29 y384.length co29)) (fun _ h_ => h_.1))) (by decide)) hk (fun _ h => h.2)) (fun _ h => h.1)); replace HO380 := Aside0.mk (Kd.R_mono (Kd.R_keep (IsS92.apart (show IsS92 w0 _ g s0_0 t372 t373 from iS) (by refine rr_ ?_; exact (Kd.R_mono (Kd.R_far (p := ⟨gb374, 1, none⟩) (Kd.R_far (p := ⟨gb374, 0, none⟩) (Kd.R_types HO380.out BK374.out (by decide)) (fun _ hk => hk.2) (.slice Ao30 y378.length co30)) (fun _ hk => hk.2) (.slice Ao29 y384.length co29)) (fun _ h_ => h_.1))) (by decide)) hk (fun _ h => h.2)) (fun _ h => h.1)); replace HO386 := Aside0.mk (Kd.R_mono (Kd.R_keep (IsS92.apart (show IsS92 w0 _ g s0_0 t372 t373 from iS) (by refine rr_ ?_; exact (Kd.R_mono (Kd.R_far (p := ⟨gb374, 1, none⟩) (Kd.R_far (p := ⟨gb374, 0, none⟩) (Kd.R_types HO386.out BK374.out (by decide)) (fun _ hk => hk.2) (.slice Ao30 y378.length co30)) (fun _ hk => hk.2) (.slice Ao29 y384.length co29)) (fun _ h_ => h_.1))) (by decide)) hk (fun _ h => h.2)) (fun _ h => h.1)); replace BK374 := Aside0.mk (KeepBut.blk hk (g' := gb374) (o := .cells #[.slice Ao30 y378.length co30, .slice Ao29 y384.length co29] 37 (0, 0)) (by refine bk_ ?_; refine blk_put (cs := #[.slice Ao30 y378.length co30, .slice Ao19 t369.length co19]) ?_ 1 _ rfl; refine bk_ ?_; refine blk_put (cs := #[.slice Ao15 t366.length co15, .slice Ao19 t369.length co19]) ?_ 0 _ rfl; exact bk_ BK374.out) NB374_0.out (by simp)); replace HK := Aside0.mk (KeepBut.trans kS hk (.inl rfl)); replace HB := Aside0.mk (hb); replace HI0 := Aside0.mk (hi); (try clear hb hk hi)))
      replace HO368 := Aside0.mk (Kd.R_drew HO368.out)
      replace HO371 := Aside0.mk (Kd.R_drew HO371.out)
      replace HO380 := Aside0.mk (Kd.R_drew HO380.out)
      replace HO386 := Aside0.mk (Kd.R_drew HO386.out)
      replace BK365 := Aside0.mk (blk_drew BK365.out)
      replace BK374 := Aside0.mk (blk_drew BK374.out)
      replace HI0 := Aside0.mk (IsS92.drew HI0.out)
      replace HK := Aside0.mk (keep_drew HK.out)
      replace HB := Aside0.mk (below_drew1 HB.out)
      refine start_ (n := 11) (S := fun w' => w'.cell? ⟨gb374, 0, none⟩ = some (.slice Ao30 y378.length co30) ∧ w'.cell? ⟨gb374, 1, none⟩ = some (.slice Ao29 y384.length co29)) (ds := [10]) #[F,F,F,F,F,F,F,F,F,F,F] (by kernel_rfl) rfl rfl ⟨(blk_cell BK374.out 0).trans rfl, (blk_cell BK374.out 1).trans rfl⟩ (fun hHeld => ?_); refine with_tabW spec_l06Any.tab5 spec_l06Any.bits5 (fun HT_ HW_ => ?_)
      generalize w33.drew = w34 at HO368 HO371 HO380 HO386 BK365 BK374 HI0 HK HB hHeld ⊢
      refine pure_ (i := 0) (N := some 19) (v := ?_) (a' := ?_) #[T,F,F,F,F,F,F,F,F,F,F] rfl rfl (any_of HT_.out (by kernel_rfl)) (fun _ _ _ h => h) (Or.inl ⟨by rfl, ?_⟩) ?_ ?_; rotate_left
      ·intro w'; go_simp; with_reducible rfl
      rotate_left
      ·simp only [PS]; rfl
      refine pure_ (i := 2) (N := some 21) (v := ?_) (a' := ?_) #[T,F,T,F,F,F,F,F,F,F,F] rfl rfl (any_of HT_.out (by kernel_rfl)) (fun _ _ _ h => h) (Or.inl ⟨by rfl, ?_⟩) ?_ ?_; rotate_left
      ·intro w'; go_simp; with_reducible rfl
      rotate_left
      ·simp only [PS]; rfl
      refine pure_ (i := 3) (N := some 22) (v := ?_) (a' := ?_) #[T,F,T,T,F,F,F,F,F,F,F] rfl rfl (any_of HT_.out (by kernel_rfl)) (fun _ _ _ h => h) (Or.inl ⟨by rfl, ?_⟩) ?_ ?_; rotate_left
      ·intro w'; go_simp; with_reducible rfl
      rotate_left
      ·simp only [PS]; rfl
      refine pure_ (i := 7) (N := some 26) (v := ?_) (a' := ?_) #[T,F,T,T,F,F,F,T,F,F,F] rfl rfl (any_of HT_.out (by kernel_rfl)) (fun _ _ _ h => h) (Or.inl ⟨by rfl, ?_⟩) ?_ ?_; rotate_left
      ·intro w'; go_simp; with_reducible rfl
      rotate_left
      ·simp only [PS]; rfl
      refine take_ (i := 1) (N := some 20) (v := ?_) (a' := ?_) #[T,T,T,T,F,F,F,T,F,F,F] rfl rfl (take_ofW HT_.out HW_.out (by kernel_rfl)) (fun _ _ _ h => h) (Or.inl ⟨by rfl, ?_⟩) hHeld ?_ ?_; rotate_left
      ·rintro w' ⟨s0, s1⟩; go_simp; with_reducible rfl
      rotate_left
      ·simp only [PS]; rfl
      refine take_ (i := 4) (N := some 23) (v := ?_) (a' := ?_) #[T,T,T,T,T,F,F,T,F,F,F] rfl rfl (take_ofW HT_.out HW_.out (by kernel_rfl)) (fun _ _ _ h => h) (Or.inl ⟨by rfl, ?_⟩) hHeld ?_ ?_; rotate_left
      ·rintro w' ⟨s0, s1⟩; go_simp; with_reducible rfl
      rotate_left
      ·simp only [PS]; rfl
      refine pure_ (i := 5) (N := some 24) (v := ?_) (a' := ?_) #[T,T,T,T,T,T,F,T,F,F,F] rfl rfl (any_of HT_.out (by kernel_rfl)) (fun _ _ _ h => h) (Or.inl ⟨by rfl, ?_⟩) ?_ ?_; rotate_left
      ·intro w'; go_simp; with_reducible rfl
      rotate_left
      ·simp only [PS]; rfl
      refine one_ (i := 6) (N := some 25) #[T,T,T,T,T,T,T,T,F,F,F] rfl rfl (one_of HT_.out (by kernel_rfl)) (by decide) (fun K hK => ?_)
      refine goes_ Tryd.func53 (by kernel_rfl) rfl #[.pointer (some ⟨g, 0, none⟩), .int .i64 (y378.length : Int)] (by rfl) rfl rfl lm_ ?_
      with_reducible refine (spec_l01Below.calls g s0_0 t388 t389 (y378.length : Int) t390 t391 t392 w0 _ ?side1 ?side2 A7.out).mono ?_
      (case side1 => exact iS)
      (case side2 => exact bI)
      rintro e w35 ⟨rfl, hi, hb, hk⟩
      refine ⟨_, rfl, ?_⟩
      replace BK365 := Aside0.mk (KeepBut.blk hk BK365.out NB365_0.out (by simp))
      replace HO368 := Aside0.mk (Kd.R_mono (Kd.R_keep (IsS92.apart (show IsS92 w0 _ g s0_0 t388 t389 from iS) (rr_ HO368.out) (by decide)) hk (fun _ h => h.2)) (fun _ h => h.1))
      replace HO371 := Aside0.mk (Kd.R_mono (Kd.R_keep (IsS92.apart (show IsS92 w0 _ g s0_0 t388 t389 from iS) (rr_ HO371.out) (by decide)) hk (fun _ h => h.2)) (fun _ h => h.1))
      replace BK374 := Aside0.mk (KeepBut.blk hk BK374.out NB374_0.out (by simp))
      replace HO380 := Aside0.mk (Kd.R_mono (Kd.R_keep (IsS92.apart (show IsS92 w0 _ g s0_0 t388 t389 from iS) (rr_ HO380.out) (by decide)) hk (fun _ h => h.2)) (fun _ h => h.1))
      replace HO386 := Aside0.mk (Kd.R_mono (Kd.R_keep (IsS92.apart (show IsS92 w0 _ g s0_0 t388 t389 from iS) (rr_ HO386.out) (by decide)) hk (fun _ h => h.2)) (fun _ h => h.1))
      replace HK := Aside0.mk (KeepBut.trans kS hk (.inl rfl))
      replace HB := Aside0.mk (hb)
      replace HI0 := Aside0.mk (hi)
      (try clear hb); (try clear hb2); (try clear hk); (try clear hi)
      refine hK.out _ _ ⟨(blk_cell BK374.out 0).trans rfl, (blk_cell BK374.out 1).trans rfl⟩ (fun hHeld => ?_)
      clear hK K
      refine norm_ (a' := ?_) ?_ ?_; rotate_left
      ·show Act.put _ (some 25) _ = _
       simp only [PS]
       rfl
      refine one_ (i := 8) (N := some 27) #[T,T,T,T,T,T,T,T,T,F,F] rfl rfl (one_of HT_.out (by kernel_rfl)) (by decide) (fun K hK => ?_)
      refine goes_ Tryd.func53 (by kernel_rfl) rfl #[.pointer (some ⟨g, 0, none⟩), .int .i64 7] (by rfl) rfl rfl lm_ ?_
      with_reducible refine (spec_l01Below.calls g s0_0 t391 t392 7 t393 t394 t395 w0 _ ?side1 ?side2 A8.out).mono ?_
      (case side1 => exact iS)
      (case side2 => exact bI)
      rintro e w36 ⟨rfl, hi, hb, hk⟩
      refine ⟨_, rfl, ?_⟩
      replace BK365 := Aside0.mk (KeepBut.blk hk BK365.out NB365_0.out (by simp))
      replace HO368 := Aside0.mk (Kd.R_mono (Kd.R_keep (IsS92.apart (show IsS92 w0 _ g s0_0 t391 t392 from iS) (rr_ HO368.out) (by decide)) hk (fun _ h => h.2)) (fun _ h => h.1))
      replace HO371 := Aside0.mk (Kd.R_mono (Kd.R_keep (IsS92.apart (show IsS92 w0 _ g s0_0 t391 t392 from iS) (rr_ HO371.out) (by decide)) hk (fun _ h => h.2)) (fun _ h => h.1))
      replace BK374 := Aside0.mk (KeepBut.blk hk BK374.out NB374_0.out (by simp))
      replace HO380 := Aside0.mk (Kd.R_mono (Kd.R_keep (IsS92.apart (show IsS92 w0 _ g s0_0 t391 t392 from iS) (rr_ HO380.out) (by decide)) hk (fun _ h => h.2)) (fun _ h => h.1))
      replace HO386 := Aside0.mk (Kd.R_mono (Kd.R_keep (IsS92.apart (show IsS92 w0 _ g s0_0 t391 t392 from iS) (rr_ HO386.out) (by decide)) hk (fun _ h => h.2)) (fun _ h => h.1))
      replace HK := Aside0.mk (KeepBut.trans kS hk (.inl rfl))
      replace HB := Aside0.mk (hb)
      replace HI0 := Aside0.mk (hi)
      (try clear hb); (try clear hb2); (try clear hk); (try clear hi)
      have p11 : 0 ≤ (t390 : Int) := of_decide_eq_true as_
      have q11 : (t390 : Int) < ((y378.length : Int) : Int) := of_decide_eq_true as_
      obtain ⟨go11, co11, eo11, gb11, gl11, cl11, HG11⟩ := Kd.R_form HO380.out (by omega)
      (first | cases eo11 | (injection eo11 with ea_ en_ ec_; (first | subst ea_ | (injection ea_ with ea_; subst ea_)); subst ec_; clear en_))
      have GB11 := Aside0.mk gb11
      have GG11 := Aside0.mk HG11
      clear gb11 gl11 HG11
      obtain ⟨hx11_0, hf11_0⟩ := Kd.R_celln 0 HO380.out (t390 : Int) p11 q11
      replace p11 := eq_true p11
      replace q11 := eq_true q11
      have HN0_go11 := Aside0.mk (show g ≠ go11 from by have h_ := IsS92.own_ne HI0.out HO380.out (by decide); intro e_; exact h_ (by rw [e_]; rfl))
      have HP37 := Kd.R_putn HO380.out (t390 : Int) t393
      rw [← Ny396.out] at HP37
      have HQ37 := Aside0.mk HP37
      clear HP37
      refine hK.out _ _ ⟨(blk_cell BK374.out 0).trans rfl, (blk_cell BK374.out 1).trans rfl⟩ (fun hHeld => ?_)
      clear hK K
      refine norm_ (a' := ?_) ?_ ?_; rotate_left
      ·show Act.put _ (some 27) _ = _
       simp only [PS]
       rfl
      refine pure_ (i := 9) (N := some 28) (v := ?_) (a' := ?_) #[T,T,T,T,T,T,T,T,T,T,F] rfl rfl (any_of HT_.out (by kernel_rfl)) (fun _ _ _ h => h) (Or.inl ⟨by rfl, ?_⟩) ?_ ?_; rotate_left
      ·intro w'; go_simp; with_reducible rfl
      rotate_left
      ·simp only [PS]; rfl
      refine last_ (i := 10) (N := none) #[T,T,T,T,T,T,T,T,T,T,T] rfl rfl (one_of HT_.out (by kernel_rfl)) (by decide) (fun K hK => ?_)
      refine skip_ (w1 := ?_) (by rfl) rfl ?_ ?_; rotate_left
      ·go_simp
       rfl
      refine hK.out _ _ ?_
      clear hK K
      refine done_ (done_of HT_.out (by kernel_rfl)) ?_
      have n0_ : Aside0 (Kd.R (Kd.int .i64) 3 (w36.setCell ⟨go11, (t390 : Int).toNat, none⟩ (.int .i64 t393)) w.heap.size (fun k_ => some k_ ≠ (.slice (some ⟨go11, 0, none⟩) y378.length co30 : Value).ownBlock) (.slice Ao15 t366.length co15) t366) := ⟨by refine rr_ ?_; exact Kd.R_mono (Kd.R_far (p := ⟨go11, (t390 : Int).toNat, none⟩) (Kd.R_mono HO368.out (fun k_ hk => (⟨hk, fun e_ => hk (by rw [e_]; rfl)⟩ : _ ∧ k_ ≠ go11))) (fun _ hk => hk.2) (.int .i64 t393)) (fun _ hk => hk.1)⟩
      have n1_ : Aside0 (Kd.R k55 55 (w36.setCell ⟨go11, (t390 : Int).toNat, none⟩ (.int .i64 t393)) w.heap.size (fun k_ => some k_ ≠ (.slice Ao29 y384.length co29 : Value).ownBlock) (.slice Ao19 t369.length co19) t369) := ⟨by refine rr_ ?_; exact Kd.R_mono (Kd.R_far (p := ⟨go11, (t390 : Int).toNat, none⟩) (Kd.R_types HO371.out GG11.out (by decide)) (fun _ hk => hk.2) (.int .i64 t393)) (fun _ hk => hk.1.2)⟩
      have n2_ : Aside0 (Kd.R (Kd.int .i64) 3 (w36.setCell ⟨go11, (t390 : Int).toNat, none⟩ (.int .i64 t393)) w.heap.size (fun k_ => some k_ ≠ (.slice Ao15 t366.length co15 : Value).ownBlock) (.slice (some ⟨go11, 0, none⟩) y378.length co30) y396) := ⟨rr_ HQ37.out⟩
      have n3_ : Aside0 (Kd.R k55 55 (w36.setCell ⟨go11, (t390 : Int).toNat, none⟩ (.int .i64 t393)) w.heap.size (fun k_ => some k_ ≠ (.slice Ao19 t369.length co19 : Value).ownBlock) (.slice Ao29 y384.length co29) y384) := ⟨by refine rr_ ?_; exact Kd.R_mono (Kd.R_far (p := ⟨go11, (t390 : Int).toNat, none⟩) (Kd.R_types HO386.out GG11.out (by decide)) (fun _ hk => hk.2) (.int .i64 t393)) (fun _ hk => hk.1)⟩
      have n4_ : Aside0 ((w36.setCell ⟨go11, (t390 : Int).toNat, none⟩ (.int .i64 t393)).heap[gb365]? = some (.cells #[.slice none 0 0, .slice none 0 0] 37 (0, 0))) := ⟨by refine bk_ ?_; refine blk_far ?_ (by have h_ := Kd.R_ne HO380.out BK365.out (by decide); intro e_; exact h_ (by rw [e_]; rfl)) _; exact bk_ BK365.out⟩
      have n5_ : Aside0 ((w36.setCell ⟨go11, (t390 : Int).toNat, none⟩ (.int .i64 t393)).heap[gb374]? = some (.cells #[.slice (some ⟨go11, 0, none⟩) y378.length co30, .slice Ao29 y384.length co29] 37 (0, 0))) := ⟨by refine bk_ ?_; refine blk_far ?_ (by have h_ := Kd.R_ne HO380.out BK374.out (by decide); intro e_; exact h_ (by rw [e_]; rfl)) _; exact bk_ BK374.out⟩
      have n6_ : Aside0 (IsS92 w0 (w36.setCell ⟨go11, (t390 : Int).toNat, none⟩ (.int .i64 t393)) g s0_0 t394 t395) := ⟨iS⟩
      have n7_ : Aside0 (KeepBut w (w36.setCell ⟨go11, (t390 : Int).toNat, none⟩ (.int .i64 t393)) g none) := ⟨kS⟩
      have n8_ : Aside0 (Below w0.heap.size w0 (w36.setCell ⟨go11, (t390 : Int).toNat, none⟩ (.int .i64 t393))) := ⟨by repeat (first | (with_reducible first | exact HB.out | apply below_alloc | apply pw_below_drewN | apply below_drew1 | refine below_set ?_ (Nat.le_trans HL.out GB11.out) | refine below_set ?_ (IsS92.ge HI0.out) | refine below_set ?_ GE365.out | refine below_set ?_ GE374.out) | exact HB.out)⟩
      (try clear HO368); (try clear HO371); (try clear HO380); (try clear HO386); (try clear BK365); (try clear BK374); (try clear HI0); (try clear HK); (try clear HB)
      generalize (w36.setCell ⟨go11, (t390 : Int).toNat, none⟩ (.int .i64 t393)) = w38 at n0_ n1_ n2_ n3_ n4_ n5_ n6_ n7_ n8_ ⊢
      have HO368 := n0_
      have HO371 := n1_
      have HO380 := n2_
      have HO386 := n3_
      have BK365 := n4_
      have BK374 := n5_
      have HI0 := n6_
      have HK := n7_
      have HB := n8_
      clear n0_ n1_ n2_ n3_ n4_ n5_ n6_ n7_ n8_
      have hcz39_0 : w38.cell? ⟨gb374, 0, none⟩ = some (.slice (some ⟨go11, 0, none⟩) y378.length co30) := (blk_cell BK374.out 0).trans rfl
      have hcz39_1 : w38.cell? ⟨gb374, 1, none⟩ = some (.slice Ao29 y384.length co29) := (blk_cell BK374.out 1).trans rfl
      have hfz39_0 := blk_frozen BK374.out 0
      have hfz39_1 := blk_frozen BK374.out 1
      have hnb40 := NB365_0.out
      have hnc40 := NB0_365.out
      have hcz41_0 : w38.cell? ⟨gb365, 0, none⟩ = some (.slice none 0 0) := (blk_cell BK365.out 0).trans rfl
      have hcz41_1 : w38.cell? ⟨gb365, 1, none⟩ = some (.slice none 0 0) := (blk_cell BK365.out 1).trans rfl
      have hfz41_0 := blk_frozen BK365.out 0
      have hfz41_1 := blk_frozen BK365.out 1
      try go_wp2
      refine bodyPost_ret (results_cell_row rfl _ _ gb365 37 #[.slice (some ⟨go11, 0, none⟩) y378.length co30, .slice Ao29 y384.length co29] (0, 0) _ rfl (by refine bk_ ?_; refine blk_put (cs := #[.slice (some ⟨go11, 0, none⟩) y378.length co30, .slice none 0 0]) ?_ 1 _ rfl; refine bk_ ?_; refine blk_put (cs := #[.slice none 0 0, .slice none 0 0]) ?_ 0 _ rfl; exact bk_ BK365.out) Tryd.underlying37 rfl (by kernel_rfl)) rfl ?_
      exact ⟨_, _, by first | rfl | (simp [errW_none, errW_some] <;> rfl) | (simp [*, errW_none, errW_some] <;> rfl), by refine rr_ ?_; exact Kd.R_mono (Kd.R_far (p := ⟨gb365, 1, none⟩) (Kd.R_far (p := ⟨gb365, 0, none⟩) (Kd.R_types HO380.out BK365.out (by decide)) (fun _ hk => hk.2) (.slice (some ⟨go11, 0, none⟩) y378.length co30)) (fun _ hk => hk.2) (.slice Ao29 y384.length co29)) (fun _ hk => trivial), Kd.Q_of_R (by refine rr_ ?_; exact Kd.R_mono (Kd.R_far (p := ⟨gb365, 1, none⟩) (Kd.R_far (p := ⟨gb365, 0, none⟩) (Kd.R_types HO386.out BK365.out (by decide)) (fun _ hk => hk.2) (.slice (some ⟨go11, 0, none⟩) y378.length co30)) (fun _ hk => hk.2) (.slice Ao29 y384.length co29)) (fun _ hk => trivial)), by exact iS, by exact bI, by exact kS⟩
     ·rw [if_neg c10] at H
      exact absurd H (by simp)
    ·rw [if_neg c9] at H
     exact absurd H (by simp)
   ·rw [if_neg c6] at H
    have c6b0 : (t387 == 0) = false := beq_eq_false_iff_ne.mpr c6
    have c6b1 : (t387 != 0) = true := bne_iff_ne.mpr c6
    by_cases c42 : t387 = 1
    ·rw [if_pos c42] at H
     have c42b0 : (t387 == 1) = true := beq_iff_eq.mpr c42
     have c42b1 : (t387 != 1) = false := bne_eq_false_iff_eq.mpr c42
     clear c42
     by_cases c43 : 1 ≤ (y384.length : Int)
     ·rw [if_pos c43] at H
      have c43b0 := eq_true c43
      have c43b1 : decide (1 ≤ (y384.length : Int)) = true := decide_eq_true c43
      clear c43
      obtain ⟨y397, hy397⟩ : ∃ y_ : List (S55), y_ = (y384.drop (1 : Int).toNat) := ⟨_, rfl⟩
      replace H : (some (y378, y397, t388, t389)) = some (r1, r2, r3, r4) := by first | (rw [hy397]; with_reducible exact H) | (have H2_ := (Option.bind_some _ _).symm.trans H; rw [hy397]; with_reducible exact H2_) | (have H2_ := (Option.bind_some _ _).symm.trans H; with_reducible exact H2_) | with_reducible exact H | (rw [hy397]; exact H) | exact H
      have Ny397 := Aside0.mk hy397
      clear hy397
      simp only [Option.some.injEq, Prod.mk.injEq] at H
      obtain ⟨rfl, rfl, rfl, rfl⟩ := H
      go_enter Tryd.func47, Tryd.ntmps47
      try go_wp2_with (first | ((with_reducible refine gate_dst (N := 2) rfl ?_); refine box_event ?hg (N := 2) ?hd (cs := #[.slice none 0 0, .slice none 0 0]) (t := 37) ?hr ?_; (case hd => rfl); (case hg => rfl); (case hr => first | (go_simp; done) | (go_simp; rfl)); intro gb365 hg w44 hbox hb; replace HB := Aside0.mk (below_step bI hb); have BK365 := Aside0.mk (hbox); have GW365 := Aside0.mk ((by rw [hg]; exact (kz w g) : w.heap.size ≤ gb365)); have GE365 := Aside0.mk ((Nat.le_trans HW0.out (by rw [hg]; exact (kz w g) : w.heap.size ≤ gb365) : w0.heap.size ≤ gb365)); replace HK := Aside0.mk (KeepBut.trans kS (KeepBut.of_below hb g none) (.inl rfl)); have NB0_365 := Aside0.mk ((by rw [hg]; exact Nat.ne_of_lt (IsS92.lt (show IsS92 w0 _ g s0_0 s0_1 s0_2 from iS)) : g ≠ gb365)); have NB365_0 := Aside0.mk ((by rw [hg]; exact Nat.ne_of_gt (IsS92.lt (show IsS92 w0 _ g s0_0 s0_1 s0_2 from iS)) : gb365 ≠ g)); replace HI0 := Aside0.mk (IsS92.below iS hb); clear hb hbox hg) | ((with_reducible refine gate_callee (f := 68) rfl ?_); refine goesL_ (some 5) rfl rfl Tryd.func68 (by kernel_rfl) rfl #[.pointer (some ⟨g, 0, none⟩)] rfl lm_ ?_; (with_reducible refine (spec_l06Path.calls k g s0_0 s0_1 s0_2 t366 t369 t372 t373 w0 _ ?side1 ?side2 A2.out).mono ?_); (case side1 => exact iS); (case side2 => exact bI); rintro e w45 ⟨v367, v370, rfl, ho0, ho1, hi, hb, hk⟩; refine ⟨_, rfl, ?_⟩; replace BK365 := Aside0.mk (KeepBut.blk hk BK365.out NB365_0.out (by simp)); have HO368 := Aside0.mk (Kd.R_lower ho0 (kz w g)); have HO371 := Aside0.mk (Kd.R_lower ho1 (kz w g)); replace HK := Aside0.mk (KeepBut.trans kS hk (.inl rfl)); replace HB := Aside0.mk (hb); replace HI0 := Aside0.mk (hi); (try clear hb hk hi ho0 ho1)) | ((with_reducible refine gate_dst (N := 3) rfl ?_); refine box_event ?hg (N := 3) ?hd (cs := #[.slice none 0 0, .slice none 0 0]) (t := 37) ?hr ?_; (case hd => rfl); (case hg => rfl); (case hr => first | (go_simp; done) | (go_simp; rfl)); intro gb374 hg w46 hbox hb; replace HO368 := Aside0.mk (Kd.R_below (rr_ HO368.out) hb); replace HO371 := Aside0.mk (Kd.R_below (rr_ HO371.out) hb); replace HB := Aside0.mk (below_step bI hb); have BK374 := Aside0.mk (hbox); have GW374 := Aside0.mk ((by rw [hg]; exact (kz w g) : w.heap.size ≤ gb374)); have GE374 := Aside0.mk ((Nat.le_trans HW0.out (by rw [hg]; exact (kz w g) : w.heap.size ≤ gb374) : w0.heap.size ≤ gb374)); replace HK := Aside0.mk (KeepBut.trans kS (KeepBut.of_below hb g none) (.inl rfl)); have NB365_374 := Aside0.mk ((by rw [hg]; exact Nat.ne_of_lt (blk_lt BK365.out) : gb365 ≠ gb374)); have NB374_365 := Aside0.mk ((by rw [hg]; exact Nat.ne_of_gt (blk_lt BK365.out) : gb374 ≠ gb365)); replace BK365 := Aside0.mk (blk_below BK365.out hb); have NB0_374 := Aside0.mk ((by rw [hg]; exact Nat.ne_of_lt (IsS92.lt (show IsS92 w0 _ g s0_0 t372 t373 from iS)) : g ≠ gb374)); have NB374_0 := Aside0.mk ((by rw [hg]; exact Nat.ne_of_gt (IsS92.lt (show IsS92 w0 _ g s0_0 t372 t373 from iS)) : gb374 ≠ g)); replace HI0 := Aside0.mk (IsS92.below iS hb); clear hb hbox hg; obtain ⟨Ao47, co47, eo47⟩ := Kd.R_slice HO368.out; subst eo47; have hnb48 := NB374_365.out; have hnc48 := NB365_374.out; have hnb49 := NB374_0.out; have hnc49 := NB0_374.out; have hcz50_0 : w46.cell? ⟨gb374, 0, none⟩ = some (.slice none 0 0) := (blk_cell BK374.out 0).trans rfl; have hcz50_1 : w46.cell? ⟨gb374, 1, none⟩ = some (.slice none 0 0) := (blk_cell BK374.out 1).trans rfl; have hfz50_0 := blk_frozen BK374.out 0; have hfz50_1 := blk_frozen BK374.out 1; obtain ⟨Ao51, co51, eo51⟩ := Kd.R_slice HO371.out; subst eo51))
      have n0_ : Aside0 (Kd.R (Kd.int .i64) 3 ((w46.setCell ⟨gb374, 0, none⟩ (.slice Ao47 t366.length co47)).setCell ⟨gb374, 1, none⟩ (.slice Ao51 t369.length co51)) w.heap.size (fun _ => True) (.slice Ao47 t366.length co47) t366) := ⟨by refine rr_ ?_; exact Kd.R_mono (Kd.R_far (p := ⟨gb374, 1, none⟩) (Kd.R_far (p := ⟨gb374, 0, none⟩) (Kd.R_types HO368.out BK374.out (by decide)) (fun _ hk => hk.2) (.slice Ao47 t366.length co47)) (fun _ hk => hk.2) (.slice Ao51 t369.length co51)) (fun _ hk => trivial)⟩
      have n1_ : Aside0 (Kd.R k55 55 ((w46.setCell ⟨gb374, 0, none⟩ (.slice Ao47 t366.length co47)).setCell ⟨gb374, 1, none⟩ (.slice Ao51 t369.length co51)) w.heap.size (fun _ => True) (.slice Ao51 t369.length co51) t369) := ⟨by refine rr_ ?_; exact Kd.R_mono (Kd.R_far (p := ⟨gb374, 1, none⟩) (Kd.R_far (p := ⟨gb374, 0, none⟩) (Kd.R_types HO371.out BK374.out (by decide)) (fun _ hk => hk.2) (.slice Ao47 t366.length co47)) (fun _ hk => hk.2) (.slice Ao51 t369.length co51)) (fun _ hk => trivial)⟩
      have n2_ : Aside0 (((w46.setCell ⟨gb374, 0, none⟩ (.slice Ao47 t366.length co47)).setCell ⟨gb374, 1, none⟩ (.slice Ao51 t369.length co51)).heap[gb365]? = some (.cells #[.slice none 0 0, .slice none 0 0] 37 (0, 0))) := ⟨bf_ BK365.out⟩
      have n3_ : Aside0 (((w46.setCell ⟨gb374, 0, none⟩ (.slice Ao47 t366.length co47)).setCell ⟨gb374, 1, none⟩ (.slice Ao51 t369.length co51)).heap[gb374]? = some (.cells #[.slice Ao47 t366.length co47, .slice Ao51 t369.length co51] 37 (0, 0))) := ⟨by refine bk_ ?_; refine blk_put (cs := #[.slice Ao47 t366.length co47, .slice none 0 0]) ?_ 1 _ rfl; refine bk_ ?_; refine blk_put (cs := #[.slice none 0 0, .slice none 0 0]) ?_ 0 _ rfl; exact bk_ BK374.out⟩
      have n4_ : Aside0 (IsS92 w0 ((w46.setCell ⟨gb374, 0, none⟩ (.slice Ao47 t366.length co47)).setCell ⟨gb374, 1, none⟩ (.slice Ao51 t369.length co51)) g s0_0 t372 t373) := ⟨iS⟩
      have n5_ : Aside0 (KeepBut w ((w46.setCell ⟨gb374, 0, none⟩ (.slice Ao47 t366.length co47)).setCell ⟨gb374, 1, none⟩ (.slice Ao51 t369.length co51)) g none) := ⟨kS⟩
      have n6_ : Aside0 (Below w0.heap.size w0 ((w46.setCell ⟨gb374, 0, none⟩ (.slice Ao47 t366.length co47)).setCell ⟨gb374, 1, none⟩ (.slice Ao51 t369.length co51))) := ⟨bI⟩
      (try clear HO368); (try clear HO371); (try clear BK365); (try clear BK374); (try clear HI0); (try clear HK); (try clear HB)
      generalize ((w46.setCell ⟨gb374, 0, none⟩ (.slice Ao47 t366.length co47)).setCell ⟨gb374, 1, none⟩ (.slice Ao51 t369.length co51)) = w52 at n0_ n1_ n2_ n3_ n4_ n5_ n6_ ⊢
      have HO368 := n0_
      have HO371 := n1_
      have BK365 := n2_
      have BK374 := n3_
      have HI0 := n4_
      have HK := n5_
      have HB := n6_
      clear n0_ n1_ n2_ n3_ n4_ n5_ n6_
      replace HO368 := Aside0.mk (Kd.R_drew HO368.out)
      replace HO371 := Aside0.mk (Kd.R_drew HO371.out)
      replace BK365 := Aside0.mk (blk_drew BK365.out)
      replace BK374 := Aside0.mk (blk_drew BK374.out)
      replace HI0 := Aside0.mk (IsS92.drew HI0.out)
      replace HK := Aside0.mk (keep_drew HK.out)
      replace HB := Aside0.mk (below_drew1 HB.out)
      refine start_ (n := 10) (S := fun w' => w'.cell? ⟨gb374, 0, none⟩ = some (.slice Ao47 t366.length co47) ∧ w'.cell? ⟨gb374, 1, none⟩ = some (.slice Ao51 t369.length co51)) (ds := [9]) #[F,F,F,F,F,F,F,F,F,F] (by kernel_rfl) rfl rfl ⟨(blk_cell BK374.out 0).trans rfl, (blk_cell BK374.out 1).trans rfl⟩ (fun hHeld => ?_); refine with_tabW spec_l06Any.tab2 spec_l06Any.bits2 (fun HT_ HW_ => ?_)
      generalize w52.drew = w53 at HO368 HO371 BK365 BK374 HI0 HK HB hHeld ⊢
      refine pure_ (i := 1) (N := some 7) (v := ?_) (a' := ?_) #[F,T,F,F,F,F,F,F,F,F] rfl rfl (any_of HT_.out (by kernel_rfl)) (fun _ _ _ h => h) (Or.inl ⟨by rfl, ?_⟩) ?_ ?_; rotate_left
      ·intro w'; go_simp; with_reducible rfl
      rotate_left
      ·simp only [PS]; rfl
      refine pure_ (i := 5) (N := some 11) (v := ?_) (a' := ?_) #[F,T,F,F,F,T,F,F,F,F] rfl rfl (any_of HT_.out (by kernel_rfl)) (fun _ _ _ h => h) (Or.inl ⟨by rfl, ?_⟩) ?_ ?_; rotate_left
      ·intro w'; go_simp; with_reducible rfl
      rotate_left
      ·simp only [PS]; rfl
      refine take_ (i := 2) (N := some 8) (v := ?_) (a' := ?_) #[F,T,T,F,F,T,F,F,F,F] rfl rfl (take_ofW HT_.out HW_.out (by kernel_rfl)) (fun _ _ _ h => h) (Or.inl ⟨by rfl, ?_⟩) hHeld ?_ ?_; rotate_left
      ·rintro w' ⟨s0, s1⟩; go_simp; with_reducible rfl
      rotate_left
      ·simp only [PS]; rfl
      refine take_ (i := 6) (N := some 12) (v := ?_) (a' := ?_) #[F,T,T,F,F,T,T,F,F,F] rfl rfl (take_ofW HT_.out HW_.out (by kernel_rfl)) (fun _ _ _ h => h) (Or.inl ⟨by rfl, ?_⟩) hHeld ?_ ?_; rotate_left
      ·rintro w' ⟨s0, s1⟩; go_simp; with_reducible rfl
      rotate_left
      ·simp only [PS]; rfl
      refine join_ (σ := Value × Value × Value) 3 #[T,T,T,T,T,T,T,F,F,F] (fun s_ => [(6, s_.1), (9, s_.2.1), (10, s_.2.2)]) (fun s_ w' => (w'.cell? ⟨gb374, 0, none⟩ = some (.slice Ao47 t366.length co47) ∧ w'.cell? ⟨gb374, 1, none⟩ = some (.slice Ao51 t369.length co51)) ∧ (Kd.R (Kd.int .i64) 3 w' w.heap.size (fun k_ => some k_ ≠ (s_.2.1 : Value).ownBlock) (.slice Ao47 t366.length co47) t366) ∧ (Kd.R k55 55 w' w.heap.size (fun k_ => some k_ ≠ (s_.2.2 : Value).ownBlock) (.slice Ao51 t369.length co51) t369) ∧ (Kd.R (Kd.int .i64) 3 w' w.heap.size (fun k_ => some k_ ≠ (.slice Ao47 t366.length co47 : Value).ownBlock) s_.2.1 y378) ∧ (Kd.R k55 55 w' w.heap.size (fun k_ => some k_ ≠ (.slice Ao51 t369.length co51 : Value).ownBlock) s_.2.2 y381) ∧ (w'.heap[gb365]? = some (.cells #[.slice none 0 0, .slice none 0 0] 37 (0, 0))) ∧ (w'.heap[gb374]? = some (.cells #[.slice Ao47 t366.length co47, .slice Ao51 t369.length co51] 37 (0, 0))) ∧ (IsS92 w0 w' g s0_0 t372 t373) ∧ (KeepBut w w' g none) ∧ (Below w0.heap.size w0 w')) ?_ ?_
      rotate_left
      ·intro hCont
       refine two_ (i := 0) (j := 4) (Ni := some 6) (Nj := some 10) #[T,T,T,F,F,T,T,F,F,F] #[F,T,T,F,T,T,T,F,F,F] rfl rfl rfl rfl (two_of HT_.out (by kernel_rfl)) (by decide) (by decide) (fun K hK => ?_) (fun K hK => ?_)
       ·skip
        refine Kd.R_lit_step (Kd.int .i64) _ 3 ?hg (N := 6) ?hd (xs := ([] : List Int)) (inner := []) (ok := fun _ => True) (okp := fun _ => True) ?hr ?hp (fun _ hk => hk) trivial (Below.refl _ _) (Nat.le_refl _) (by simp) ?_; (case hd => rfl); (case hg => rfl); (case hr => first | (go_simp; done) | (go_simp; rfl)); (case hp => exact (Reps.none _ _))
        intro v376 w54 ho55 hb hg_ hnew_
        clear hg_ hnew_
        (first | rw [← Ny375.out] at ho55 | (simp only [Int.reduceToNat] at ho55; rw [← Ny375.out] at ho55))
        replace HO371 := Aside0.mk (Kd.R_below (rr_ HO371.out) hb)
        have HO377 := Aside0.mk (Kd.R_lower (Kd.R_new' ho55 (Kd.R_lt (rr_ HO368.out))) (kz w g))
        replace HO368 := Aside0.mk (Kd.R_elder' (rr_ HO368.out) (Kd.R_base ho55) hb)
        replace BK365 := Aside0.mk (blk_below BK365.out hb)
        replace BK374 := Aside0.mk (blk_below BK374.out hb)
        replace HK := Aside0.mk (KeepBut.trans kS (KeepBut.of_below hb g none) (.inl rfl))
        replace HB := Aside0.mk (below_step bI hb)
        replace HI0 := Aside0.mk (IsS92.below iS hb)
        clear hb ho55
        refine hK.out _ _ ⟨(blk_cell BK374.out 0).trans rfl, (blk_cell BK374.out 1).trans rfl⟩ (fun hHeld => ?_)
        clear hK K
        refine norm_ (a' := ?_) ?_ ?_; rotate_left
        ·show Act.put _ (some 6) _ = _
         simp only [PS]
         rfl
        refine two_ (i := 3) (j := 4) (Ni := some 9) (Nj := some 10) #[T,T,T,T,F,T,T,F,F,F] #[T,T,T,F,T,T,T,F,F,F] rfl rfl rfl rfl (two_of HT_.out (by kernel_rfl)) (by decide) (by decide) (fun K hK => ?_) (fun K hK => ?_)
        ·skip
         refine Kd.R_append_rows_step (Kd.int .i64) w.heap.size (by rfl) (.tmp 6) (.tmp 8) 28 3 (.int .i64 0) 8 rfl Tryd.underlying28 info3 rfl (by decide) (by omega) v376 y375 t366 _ _ _ (fun k_ => some k_ ≠ (.slice Ao47 t366.length co47 : Value).ownBlock) (fun _ => False) rfl rfl ?aO ?aR (fun _ _ h => h) (fun _ h => h.elim) ?aF (Below.refl _ _) ?aS ?aL ?_
         (case aR => exact cc_ (Kd.R_reads' HO368.out).2.2)
         (case aF => exact (fun k_ hk => Kd.fresh' (Kd.R_lt (rr_ HO368.out)) k_ hk))
         (case aO => exact (by refine rr_ ?_; exact Kd.R_mono HO377.out (fun _ hk => hk.2)))
         (case aS => exact (kz w g))
         (case aL => have := LMc3.out; omega)
         intro v379 w56 ho hb hg hat
         rw [← Ny378.out] at ho
         have n0_ := Aside0.mk (IsS92.grown iS hg (IsS92.own_ne HI0.out HO377.out (by decide)))
         have n1_ := Aside0.mk (blk_grown BK365.out hg (Kd.R_ne HO377.out BK365.out (by decide)))
         have n2_ := Aside0.mk (Kd.R_after (ok := (fun _ => True)) (rr_ HO368.out) hg hat)
         have n3_ := Aside0.mk (Kd.R_over' (rr_ HO371.out) (Kd.R_typed (rr_ HO377.out)) (by decide) hg)
         have n4_ := Aside0.mk (blk_grown BK374.out hg (Kd.R_ne HO377.out BK374.out (by decide)))
         have n5_ := Aside0.mk (below_weaken bI HL.out hb)
         have n6_ := Aside0.mk (KeepBut.trans kS (KeepBut.of_grown hg g) (Kd.R_base2 HO377.out))
         have n7_ := Aside0.mk (ho)
         clear HI0 BK365 HO368 HO371 BK374 HB HK HO377
         have HI0 := n0_
         have BK365 := n1_
         have HO368 := n2_
         have HO371 := n3_
         have BK374 := n4_
         have HB := n5_
         have HK := n6_
         have HO380 := n7_
         clear n0_ n1_ n2_ n3_ n4_ n5_ n6_ n7_ ho hb hg hat
         refine hK.out _ _ ⟨(blk_cell BK374.out 0).trans rfl, (blk_cell BK374.out 1).trans rfl⟩ (fun hHeld => ?_)
         clear hK K
         refine norm_ (a' := ?_) ?_ ?_; rotate_left
         ·show Act.put _ (some 9) _ = _
          simp only [PS]
          rfl
         refine one_ (i := 4) (N := some 10) #[T,T,T,T,T,T,T,F,F,F] rfl rfl (one_of HT_.out (by kernel_rfl)) (by decide) (fun K hK => ?_)
         refine Kd.R_lit_step k55 _ 55 ?hg (N := 10) ?hd (xs := ([] : List (S55))) (inner := []) (ok := fun _ => True) (okp := fun _ => True) ?hr ?hp (fun _ hk => hk) trivial (Below.refl _ _) (Nat.le_refl _) (by simp) ?_; (case hd => rfl); (case hg => rfl); (case hr => first | (go_simp; done) | (go_simp; rfl)); (case hp => exact (Reps.none _ _))
         intro v382 w57 ho58 hb hg_ hnew_
         clear hg_ hnew_
         (first | rw [← Ny381.out] at ho58 | (simp only [Int.reduceToNat] at ho58; rw [← Ny381.out] at ho58))
         replace HO368 := Aside0.mk (Kd.R_below (rr_ HO368.out) hb)
         replace HO380 := Aside0.mk (Kd.R_below (rr_ HO380.out) hb)
         have HO383 := Aside0.mk (Kd.R_lower (Kd.R_new' ho58 (Kd.R_lt (rr_ HO371.out))) (kz w g))
         replace HO371 := Aside0.mk (Kd.R_elder' (rr_ HO371.out) (Kd.R_base ho58) hb)
         replace BK365 := Aside0.mk (blk_below BK365.out hb)
         replace BK374 := Aside0.mk (blk_below BK374.out hb)
         replace HK := Aside0.mk (KeepBut.trans kS (KeepBut.of_below hb g none) (.inl rfl))
         replace HB := Aside0.mk (below_step bI hb)
         replace HI0 := Aside0.mk (IsS92.below iS hb)
         clear hb ho58
         refine hK.out _ _ ⟨(blk_cell BK374.out 0).trans rfl, (blk_cell BK374.out 1).trans rfl⟩ (fun hHeld => ?_)
         clear hK K
         refine norm_ (a' := ?_) ?_ ?_; rotate_left
         ·show Act.put _ (some 10) _ = _
          simp only [PS]
          rfl
         exact norm_ (by simp only [putAll, Act.put, List.setIfInBounds_toArray, List.set_cons_zero, List.set_cons_succ]) (hCont (v376, v379, v382) _ ⟨hHeld, (by refine rr_ ?_; exact Kd.R_mono HO368.out (fun _ hk => hk.2)), (by refine rr_ ?_; exact Kd.R_mono HO371.out (fun _ hk => hk.2)), (rr_ HO380.out), (by refine rr_ ?_; exact Kd.R_mono HO383.out (fun _ hk => hk.2)), (by exact BK365.out), (by exact BK374.out), iS, kS, bI⟩)
        ·skip
         refine Kd.R_lit_step k55 _ 55 ?hg (N := 10) ?hd (xs := ([] : List (S55))) (inner := []) (ok := fun _ => True) (okp := fun _ => True) ?hr ?hp (fun _ hk => hk) trivial (Below.refl _ _) (Nat.le_refl _) (by simp) ?_; (case hd => rfl); (case hg => rfl); (case hr => first | (go_simp; done) | (go_simp; rfl)); (case hp => exact (Reps.none _ _))
         intro v382 w56 ho57 hb hg_ hnew_
         clear hg_ hnew_
         (first | rw [← Ny381.out] at ho57 | (simp only [Int.reduceToNat] at ho57; rw [← Ny381.out] at ho57))
         replace HO368 := Aside0.mk (Kd.R_below (rr_ HO368.out) hb)
         replace HO377 := Aside0.mk (Kd.R_below (rr_ HO377.out) hb)
         have HO383 := Aside0.mk (Kd.R_lower (Kd.R_new' ho57 (Kd.R_lt (rr_ HO371.out))) (kz w g))
         replace HO371 := Aside0.mk (Kd.R_elder' (rr_ HO371.out) (Kd.R_base ho57) hb)
         replace BK365 := Aside0.mk (blk_below BK365.out hb)
         replace BK374 := Aside0.mk (blk_below BK374.out hb)
         replace HK := Aside0.mk (KeepBut.trans kS (KeepBut.of_below hb g none) (.inl rfl))
         replace HB := Aside0.mk (below_step bI hb)
         replace HI0 := Aside0.mk (IsS92.below iS hb)
         clear hb ho57
         refine hK.out _ _ ⟨(blk_cell BK374.out 0).trans rfl, (blk_cell BK374.out 1).trans rfl⟩ (fun hHeld => ?_)
         clear hK K
         refine norm_ (a' := ?_) ?_ ?_; rotate_left
         ·show Act.put _ (some 10) _ = _
          simp only [PS]
          rfl
         refine one_ (i := 3) (N := some 9) #[T,T,T,T,T,T,T,F,F,F] rfl rfl (one_of HT_.out (by kernel_rfl)) (by decide) (fun K hK => ?_)
         refine Kd.R_append_rows_step (Kd.int .i64) w.heap.size (by rfl) (.tmp 6) (.tmp 8) 28 3 (.int .i64 0) 8 rfl Tryd.underlying28 info3 rfl (by decide) (by omega) v376 y375 t366 _ _ _ (fun k_ => some k_ ≠ (.slice Ao47 t366.length co47 : Value).ownBlock) (fun _ => False) rfl rfl ?aO ?aR (fun _ _ h => h) (fun _ h => h.elim) ?aF (Below.refl _ _) ?aS ?aL ?_
         (case aR => exact cc_ (Kd.R_reads' HO368.out).2.2)
         (case aF => exact (fun k_ hk => Kd.fresh' (Kd.R_lt (rr_ HO368.out)) k_ hk))
         (case aO => exact (by refine rr_ ?_; exact Kd.R_mono HO377.out (fun _ hk => hk.2)))
         (case aS => exact (kz w g))
         (case aL => have := LMc3.out; omega)
         intro v379 w58 ho hb hg hat
         rw [← Ny378.out] at ho
         have n0_ := Aside0.mk (IsS92.grown iS hg (IsS92.own_ne HI0.out HO377.out (by decide)))
         have n1_ := Aside0.mk (blk_grown BK365.out hg (Kd.R_ne HO377.out BK365.out (by decide)))
         have n2_ := Aside0.mk (Kd.R_after (ok := (fun _ => True)) (rr_ HO368.out) hg hat)
         have n3_ := Aside0.mk (Kd.R_over' (rr_ HO371.out) (Kd.R_typed (rr_ HO377.out)) (by decide) hg)
         have n4_ := Aside0.mk (blk_grown BK374.out hg (Kd.R_ne HO377.out BK374.out (by decide)))
         have n5_ := Aside0.mk (Kd.R_over' (rr_ HO383.out) (Kd.R_typed (rr_ HO377.out)) (by decide) hg)
         have n6_ := Aside0.mk (below_weaken bI HL.out hb)
         have n7_ := Aside0.mk (KeepBut.trans kS (KeepBut.of_grown hg g) (Kd.R_base2 HO377.out))
         have n8_ := Aside0.mk (ho)
         clear HI0 BK365 HO368 HO371 BK374 HO383 HB HK HO377
         have HI0 := n0_
         have BK365 := n1_
         have HO368 := n2_
         have HO371 := n3_
         have BK374 := n4_
         have HO383 := n5_
         have HB := n6_
         have HK := n7_
         have HO380 := n8_
         clear n0_ n1_ n2_ n3_ n4_ n5_ n6_ n7_ n8_ ho hb hg hat
         refine hK.out _ _ ⟨(blk_cell BK374.out 0).trans rfl, (blk_cell BK374.out 1).trans rfl⟩ (fun hHeld => ?_)
         clear hK K
         refine norm_ (a' := ?_) ?_ ?_; rotate_left
         ·show Act.put _ (some 9) _ = _
          simp only [PS]
          rfl
         exact norm_ (by simp only [putAll, Act.put, List.setIfInBounds_toArray, List.set_cons_zero, List.set_cons_succ]) (hCont (v376, v379, v382) _ ⟨hHeld, (by refine rr_ ?_; exact Kd.R_mono HO368.out (fun _ hk => hk.2)), (by refine rr_ ?_; exact Kd.R_mono HO371.out (fun _ hk => hk.2)), (rr_ HO380.out), (by refine rr_ ?_; exact Kd.R_mono HO383.out (fun _ hk => hk.2)), (by exact BK365.out), (by exact BK374.out), iS, kS, bI⟩)
       ·skip
        refine Kd.R_lit_step k55 _ 55 ?hg (N := 10) ?hd (xs := ([] : List (S55))) (inner := []) (ok := fun _ => True) (okp := fun _ => True) ?hr ?hp (fun _ hk => hk) trivial (Below.refl _ _) (Nat.le_refl _) (by simp) ?_; (case hd => rfl); (case hg => rfl); (case hr => first | (go_simp; done) | (go_simp; rfl)); (case hp => exact (Reps.none _ _))
        intro v382 w54 ho55 hb hg_ hnew_
        clear hg_ hnew_
        (first | rw [← Ny381.out] at ho55 | (simp only [Int.reduceToNat] at ho55; rw [← Ny381.out] at ho55))
        replace HO368 := Aside0.mk (Kd.R_below (rr_ HO368.out) hb)
        have HO383 := Aside0.mk (Kd.R_lower (Kd.R_new' ho55 (Kd.R_lt (rr_ HO371.out))) (kz w g))
        replace HO371 := Aside0.mk (Kd.R_elder' (rr_ HO371.out) (Kd.R_base ho55) hb)
        replace BK365 := Aside0.mk (blk_below BK365.out hb)
        replace BK374 := Aside0.mk (blk_below BK374.out hb)
        replace HK := Aside0.mk (KeepBut.trans kS (KeepBut.of_below hb g none) (.inl rfl))
        replace HB := Aside0.mk (below_step bI hb)
        replace HI0 := Aside0.mk (IsS92.below iS hb)
        clear hb ho55
        refine hK.out _ _ ⟨(blk_cell BK374.out 0).trans rfl, (blk_cell BK374.out 1).trans rfl⟩ (fun hHeld => ?_)
        clear hK K
        refine norm_ (a' := ?_) ?_ ?_; rotate_left
        ·show Act.put _ (some 10) _ = _
         simp only [PS]
         rfl
        refine one_ (i := 0) (N := some 6) #[T,T,T,F,T,T,T,F,F,F] rfl rfl (one_of HT_.out (by kernel_rfl)) (by decide) (fun K hK => ?_)
        refine Kd.R_lit_step (Kd.int .i64) _ 3 ?hg (N := 6) ?hd (xs := ([] : List Int)) (inner := []) (ok := fun _ => True) (okp := fun _ => True) ?hr ?hp (fun _ hk => hk) trivial (Below.refl _ _) (Nat.le_refl _) (by simp) ?_; (case hd => rfl); (case hg => rfl); (case hr => first | (go_simp; done) | (go_simp; rfl)); (case hp => exact (Reps.none _ _))
        intro v376 w56 ho57 hb hg_ hnew_
        clear hg_ hnew_
        (first | rw [← Ny375.out] at ho57 | (simp only [Int.reduceToNat] at ho57; rw [← Ny375.out] at ho57))
        replace HO371 := Aside0.mk (Kd.R_below (rr_ HO371.out) hb)
        replace HO383 := Aside0.mk (Kd.R_below (rr_ HO383.out) hb)
        have HO377 := Aside0.mk (Kd.R_lower (Kd.R_new' ho57 (Kd.R_lt (rr_ HO368.out))) (kz w g))
        replace HO368 := Aside0.mk (Kd.R_elder' (rr_ HO368.out) (Kd.R_base ho57) hb)
        replace BK365 := Aside0.mk (blk_below BK365.out hb)
        replace BK374 := Aside0.mk (blk_below BK374.out hb)
        replace HK := Aside0.mk (KeepBut.trans kS (KeepBut.of_below hb g none) (.inl rfl))
        replace HB := Aside0.mk (below_step bI hb)
        replace HI0 := Aside0.mk (IsS92.below iS hb)
        clear hb ho57
        refine hK.out _ _ ⟨(blk_cell BK374.out 0).trans rfl, (blk_cell BK374.out 1).trans rfl⟩ (fun hHeld => ?_)
        clear hK K
        refine norm_ (a' := ?_) ?_ ?_; rotate_left
        ·show Act.put _ (some 6) _ = _
         simp only [PS]
         rfl
        refine one_ (i := 3) (N := some 9) #[T,T,T,T,T,T,T,F,F,F] rfl rfl (one_of HT_.out (by kernel_rfl)) (by decide) (fun K hK => ?_)
        refine Kd.R_append_rows_step (Kd.int .i64) w.heap.size (by rfl) (.tmp 6) (.tmp 8) 28 3 (.int .i64 0) 8 rfl Tryd.underlying28 info3 rfl (by decide) (by omega) v376 y375 t366 _ _ _ (fun k_ => some k_ ≠ (.slice Ao47 t366.length co47 : Value).ownBlock) (fun _ => False) rfl rfl ?aO ?aR (fun _ _ h => h) (fun _ h => h.elim) ?aF (Below.refl _ _) ?aS ?aL ?_
        (case aR => exact cc_ (Kd.R_reads' HO368.out).2.2)
        (case aF => exact (fun k_ hk => Kd.fresh' (Kd.R_lt (rr_ HO368.out)) k_ hk))
        (case aO => exact (by refine rr_ ?_; exact Kd.R_mono HO377.out (fun _ hk => hk.2)))
        (case aS => exact (kz w g))
        (case aL => have := LMc3.out; omega)
        intro v379 w58 ho hb hg hat
        rw [← Ny378.out] at ho
        have n0_ := Aside0.mk (IsS92.grown iS hg (IsS92.own_ne HI0.out HO377.out (by decide)))
        have n1_ := Aside0.mk (blk_grown BK365.out hg (Kd.R_ne HO377.out BK365.out (by decide)))
        have n2_ := Aside0.mk (Kd.R_after (ok := (fun _ => True)) (rr_ HO368.out) hg hat)
        have n3_ := Aside0.mk (Kd.R_over' (rr_ HO371.out) (Kd.R_typed (rr_ HO377.out)) (by decide) hg)
        have n4_ := Aside0.mk (blk_grown BK374.out hg (Kd.R_ne HO377.out BK374.out (by decide)))
        have n5_ := Aside0.mk (Kd.R_over' (rr_ HO383.out) (Kd.R_typed (rr_ HO377.out)) (by decide) hg)
        have n6_ := Aside0.mk (below_weaken bI HL.out hb)
        have n7_ := Aside0.mk (KeepBut.trans kS (KeepBut.of_grown hg g) (Kd.R_base2 HO377.out))
        have n8_ := Aside0.mk (ho)
        clear HI0 BK365 HO368 HO371 BK374 HO383 HB HK HO377
        have HI0 := n0_
        have BK365 := n1_
        have HO368 := n2_
        have HO371 := n3_
        have BK374 := n4_
        have HO383 := n5_
        have HB := n6_
        have HK := n7_
        have HO380 := n8_
        clear n0_ n1_ n2_ n3_ n4_ n5_ n6_ n7_ n8_ ho hb hg hat
        refine hK.out _ _ ⟨(blk_cell BK374.out 0).trans rfl, (blk_cell BK374.out 1).trans rfl⟩ (fun hHeld => ?_)
        clear hK K
        refine norm_ (a' := ?_) ?_ ?_; rotate_left
        ·show Act.put _ (some 9) _ = _
         simp only [PS]
         rfl
        exact norm_ (by simp only [putAll, Act.put, List.setIfInBounds_toArray, List.set_cons_zero, List.set_cons_succ]) (hCont (v376, v379, v382) _ ⟨hHeld, (by refine rr_ ?_; exact Kd.R_mono HO368.out (fun _ hk => hk.2)), (by refine rr_ ?_; exact Kd.R_mono HO371.out (fun _ hk => hk.2)), (rr_ HO380.out), (by refine rr_ ?_; exact Kd.R_mono HO383.out (fun _ hk => hk.2)), (by exact BK365.out), (by exact BK374.out), iS, kS, bI⟩)
      rintro ⟨v376, v379, v382⟩ w59 ⟨hS_, h0_, h1_, h2_, h3_, h4_, h5_, h6_, h7_, h8_⟩
      have n0_ : Aside0 (Kd.R (Kd.int .i64) 3 w59 w.heap.size (fun k_ => some k_ ≠ (v379 : Value).ownBlock) (.slice Ao47 t366.length co47) t366) := ⟨h0_⟩
      have n1_ : Aside0 (Kd.R k55 55 w59 w.heap.size (fun k_ => some k_ ≠ (v382 : Value).ownBlock) (.slice Ao51 t369.length co51) t369) := ⟨h1_⟩
      have n2_ : Aside0 (Kd.R (Kd.int .i64) 3 w59 w.heap.size (fun k_ => some k_ ≠ (.slice Ao47 t366.length co47 : Value).ownBlock) v379 y378) := ⟨h2_⟩
      have n3_ : Aside0 (Kd.R k55 55 w59 w.heap.size (fun k_ => some k_ ≠ (.slice Ao51 t369.length co51 : Value).ownBlock) v382 y381) := ⟨h3_⟩
      have n4_ : Aside0 (w59.heap[gb365]? = some (.cells #[.slice none 0 0, .slice none 0 0] 37 (0, 0))) := ⟨h4_⟩
      have n5_ : Aside0 (w59.heap[gb374]? = some (.cells #[.slice Ao47 t366.length co47, .slice Ao51 t369.length co51] 37 (0, 0))) := ⟨h5_⟩
      have n6_ : Aside0 (IsS92 w0 w59 g s0_0 t372 t373) := ⟨h6_⟩
      have n7_ : Aside0 (KeepBut w w59 g none) := ⟨h7_⟩
      have n8_ : Aside0 (Below w0.heap.size w0 w59) := ⟨h8_⟩
      clear HO368 HO371 BK365 BK374 HI0 HK HB h0_ h1_ h2_ h3_ h4_ h5_ h6_ h7_ h8_
      have HO368 := n0_
      have HO371 := n1_
      have HO380 := n2_
      have HO383 := n3_
      have BK365 := n4_
      have BK374 := n5_
      have HI0 := n6_
      have HK := n7_
      have HB := n8_
      clear n0_ n1_ n2_ n3_ n4_ n5_ n6_ n7_ n8_
      have hHeld : w59.cell? ⟨gb374, 0, none⟩ = some (.slice Ao47 t366.length co47) ∧ w59.cell? ⟨gb374, 1, none⟩ = some (.slice Ao51 t369.length co51) := hS_
      refine norm_ (a' := ?_) ?_ ?_; rotate_left
      ·simp only [putAll, Act.put, List.setIfInBounds_toArray, List.set_cons_zero, List.set_cons_succ]
       rfl
      refine one_ (i := 7) (N := some 13) #[T,T,T,T,T,T,T,T,F,F] rfl rfl (one_of HT_.out (by kernel_rfl)) (by decide) (fun K hK => ?_)
      refine Kd.R_append_rows_step k55 w.heap.size (by rfl) (.tmp 10) (.tmp 12) 35 55 (.agg #[(.int .i64 0), (.int .i64 0)]) 16 rfl Tryd.underlying35 info55 rfl (by decide) (by omega) v382 y381 t369 _ _ _ (fun k_ => some k_ ≠ (.slice Ao51 t369.length co51 : Value).ownBlock) (fun _ => False) rfl rfl ?aO ?aR (fun _ _ h => h) (fun _ h => h.elim) ?aF (Below.refl _ _) ?aS ?aL ?_
      (case aR => exact cc_ (Kd.R_reads' HO371.out).2.2)
      (case aF => exact (fun k_ hk => Kd.fresh' (Kd.R_lt (rr_ HO371.out)) k_ hk))
      (case aO => exact (rr_ HO383.out))
      (case aS => exact (kz w g))
      (case aL => have := LMc4.out; omega)
      intro v385 w60 ho hb hg hat
      rw [← Ny384.out] at ho
      have n0_ := Aside0.mk (IsS92.grown iS hg (IsS92.own_ne HI0.out HO383.out (by decide)))
      have n1_ := Aside0.mk (blk_grown BK365.out hg (Kd.R_ne HO383.out BK365.out (by decide)))
      have n2_ := Aside0.mk (Kd.R_over' (rr_ HO368.out) (Kd.R_typed (rr_ HO383.out)) (by decide) hg)
      have n3_ := Aside0.mk (Kd.R_after (ok := (fun _ => True)) (by refine rr_ ?_; exact Kd.R_mono HO371.out (fun _ hk => ⟨trivial, hk⟩)) hg hat)
      have n4_ := Aside0.mk (blk_grown BK374.out hg (Kd.R_ne HO383.out BK374.out (by decide)))
      have n5_ := Aside0.mk (Kd.R_over' (rr_ HO380.out) (Kd.R_typed (rr_ HO383.out)) (by decide) hg)
      have n6_ := Aside0.mk (below_weaken bI HL.out hb)
      have n7_ := Aside0.mk (KeepBut.trans kS (KeepBut.of_grown hg g) (Kd.R_base2 HO383.out))
      have n8_ := Aside0.mk (ho)
      clear HI0 BK365 HO368 HO371 BK374 HO380 HB HK HO383
      have HI0 := n0_
      have BK365 := n1_
      have HO368 := n2_
      have HO371 := n3_
      have BK374 := n4_
      have HO380 := n5_
      have HB := n6_
      have HK := n7_
      have HO386 := n8_
      clear n0_ n1_ n2_ n3_ n4_ n5_ n6_ n7_ n8_ ho hb hg hat
      obtain ⟨Ao61, co61, eo61⟩ := Kd.R_slice HO386.out
      (first | subst eo61 | (injection eo61 with f1_ f2_ f3_; have f4_ := f1_.symm; have f5_ := f3_.symm; clear f1_ f2_ f3_; subst f4_; subst f5_))
      obtain ⟨Ao62, co62, eo62⟩ := Kd.R_slice HO380.out
      (first | subst eo62 | (injection eo62 with f1_ f2_ f3_; have f4_ := f1_.symm; have f5_ := f3_.symm; clear f1_ f2_ f3_; subst f4_; subst f5_))
      refine hK.out _ _ ⟨(blk_cell BK374.out 0).trans rfl, (blk_cell BK374.out 1).trans rfl⟩ (fun hHeld => ?_)
      clear hK K
      refine norm_ (a' := ?_) ?_ ?_; rotate_left
      ·show Act.put _ (some 13) _ = _
       simp only [PS]
       rfl
      refine pure_ (i := 8) (N := some 14) (v := ?_) (a' := ?_) #[T,T,T,T,T,T,T,T,T,F] rfl rfl (any_of HT_.out (by kernel_rfl)) (fun _ _ _ h => h) (Or.inl ⟨by rfl, ?_⟩) ?_ ?_; rotate_left
      ·intro w'; go_simp; with_reducible rfl
      rotate_left
      ·simp only [PS]; rfl
      refine last_ (i := 9) (N := none) #[T,T,T,T,T,T,T,T,T,T] rfl rfl (one_of HT_.out (by kernel_rfl)) (by decide) (fun K hK => ?_)
      have hs63 : w60.cell? ⟨gb374, 0, none⟩ = some (.slice Ao47 t366.length co47) := (blk_cell BK374.out 0).trans rfl
      have hfs63 := blk_frozen BK374.out 0
      have hns63_0 := NB365_374.out
      have hms63_0 := NB374_365.out
      have hs64 : w60.cell? ⟨gb374, 1, none⟩ = some (.slice Ao51 t369.length co51) := (blk_cell BK374.out 1).trans rfl
      have hfs64 := blk_frozen BK374.out 1
      have hns64_0 := NB365_374.out
      have hms64_0 := NB374_365.out
      refine skip_ (w1 := ?_) (by rfl) rfl ?_ ?_; rotate_left
      ·go_simp
       rfl
      refine hK.out _ _ ?_
      clear hK K
      refine done_ (done_of HT_.out (by kernel_rfl)) ?_
      try go_wp2_with (first | ((with_reducible refine gate_callee (f := 53) rfl ?_); refine goesL_ (some 16) rfl rfl Tryd.func53 (by kernel_rfl) rfl #[.pointer (some ⟨g, 0, none⟩), .int .i64 16] rfl lm_ ?_; (with_reducible refine (spec_l01Below.calls g s0_0 t372 t373 16 t387 t388 t389 w0 _ ?side1 ?side2 A5.out).mono ?_); (case side1 => exact iS); (case side2 => exact bI); rintro e w65 ⟨rfl, hi, hb, hk⟩; refine ⟨_, rfl, ?_⟩; replace BK365 := Aside0.mk (KeepBut.blk hk (bf_ BK365.out) NB365_0.out (by simp)); replace HO368 := Aside0.mk (Kd.R_mono (Kd.R_keep (IsS92.apart (show IsS92 w0 _ g s0_0 t372 t373 from iS) (by refine rr_ ?_; exact (Kd.R_mono (Kd.R_far (p := ⟨gb374, 1, none⟩) (Kd.R_far (p := ⟨gb374, 0, none⟩) (Kd.R_types HO368.out BK374.out (by decide)) (fun _ hk => hk.2) (.slice Ao62 y378.length co62)) (fun _ hk => hk.2) (.slice Ao61 y384.length co61)) (fun _ h_ => h_.1))) (by decide)) hk (fun _ h => h.2)) (fun _ h => h.1)); replace HO371 := Aside0.mk (Kd.R_mono (Kd.R_keep (IsS92.apart (show IsS92 w0 _ g s0_0 t372 t373 from iS) (by refine rr_ ?_; exact (Kd.R_mono (Kd.R_far (p := ⟨gb374, 1, none⟩) (Kd.R_far (p := ⟨gb374, 0, none⟩) (Kd.R_types HO371.out BK374.out (by decide)) (fun _ hk => hk.2) (.slice Ao62 y378.length co62)) (fun _ hk => hk.2) (.slice Ao61 y384.length co61)) (fun _ h_ => h_.1))) (by decide)) hk (fun _ h => h.2)) (fun _ h => h.1)); replace HO380 := Aside0.mk (Kd.R_mono (Kd.R_keep (IsS92.apart (show IsS92 w0 _ g s0_0 t372 t373 from iS) (by refine rr_ ?_; exact (Kd.R_mono (Kd.R_far (p := ⟨gb374, 1, none⟩) (Kd.R_far (p := ⟨gb374, 0, none⟩) (Kd.R_types HO380.out BK374.out (by decide)) (fun _ hk => hk.2) (.slice Ao62 y378.length co62)) (fun _ hk => hk.2) (.slice Ao61 y384.length co61)) (fun _ h_ => h_.1))) (by decide)) hk (fun _ h => h.2)) (fun _ h => h.1)); replace HO386 := Aside0.mk (Kd.R_mono (Kd.R_keep (IsS92.apart (show IsS92 w0 _ g s0_0 t372 t373 from iS) (by refine rr_ ?_; exact (Kd.R_mono (Kd.R_far (p := ⟨gb374, 1, none⟩) (Kd.R_far (p := ⟨gb374, 0, none⟩) (Kd.R_types HO386.out BK374.out (by decide)) (fun _ hk => hk.2) (.slice Ao62 y378.length co62)) (fun _ hk => hk.2) (.slice Ao61 y384.length co61)) (fun _ h_ => h_.1))) (by decide)) hk (fun _ h => h.2)) (fun _ h => h.1)); replace BK374 := Aside0.mk (KeepBut.blk hk (g' := gb374) (o := .cells #[.slice Ao62 y378.length co62, .slice Ao61 y384.length co61] 37 (0, 0)) (by refine bk_ ?_; refine blk_put (cs := #[.slice Ao62 y378.length co62, .slice Ao51 t369.length co51]) ?_ 1 _ rfl; refine bk_ ?_; refine blk_put (cs := #[.slice Ao47 t366.length co47, .slice Ao51 t369.length co51]) ?_ 0 _ rfl; exact bk_ BK374.out) NB374_0.out (by simp)); replace HK := Aside0.mk (KeepBut.trans kS hk (.inl rfl)); replace HB := Aside0.mk (hb); replace HI0 := Aside0.mk (hi); (try clear hb hk hi); have hcz66_0 : w65.cell? ⟨gb374, 0, none⟩ = some (.slice Ao62 y378.length co62) := (blk_cell BK374.out 0).trans rfl; have hcz66_1 : w65.cell? ⟨gb374, 1, none⟩ = some (.slice Ao61 y384.length co61) := (blk_cell BK374.out 1).trans rfl; have hfz66_0 := blk_frozen BK374.out 0; have hfz66_1 := blk_frozen BK374.out 1; have q67 : (1 : Int) ≤ ((y384.length : Int) : Int) := of_decide_eq_true as_; obtain ⟨i067, hi067, _, hsz67, _⟩ := info_parts info55; have hcut67 := cut_from (P := Tryd.prog) 35 55 .i64 Tryd.underlying35 hi067 2 hsz67 Ao61 y384.length co61 1 (by omega) q67; have hr67 := Kd.Q_drop (k := (1 : Int).toNat) (Kd.Q_of_R HO386.out) (by omega); obtain ⟨A67, hA67⟩ : ∃ A1, A1 = (if co61 = (1 : Int).toNat then Ao61 else (Ao61 : Option Addr).map (·.add ((1 : Int).toNat * 2))) := ⟨_, rfl⟩; obtain ⟨c67, hc67⟩ : ∃ c1, c1 = co61 - (1 : Int).toNat := ⟨_, rfl⟩; have hy67 : y397.length = y384.length - (1 : Int).toNat := (by rw [Ny397.out, List.length_drop]); rw [← Ny397.out] at hr67; rw [← hy67, ← hA67, ← hc67] at hcut67; replace hr67 : Kd.Q k55 55 w65 w.heap.size (fun k_ => some k_ ≠ (.slice Ao51 t369.length co51 : Value).ownBlock) (.slice A67 y397.length c67) y397 := (by rw [hA67, hc67, hy67]; exact hr67); have HE67 : Aside0 ((Value.slice A67 y397.length c67).ownBlock = (.slice Ao61 y384.length co61 : Value).ownBlock) := ⟨by rw [hA67]; split <;> (cases (Ao61 : Option Addr) <;> rfl)⟩; clear hy67 hi067 hsz67 HO386 hA67 hc67; have HO399 := Aside0.mk hr67; clear hr67; replace q67 := eq_true q67; have n_ := Aside0.mk (Kd.R_mono (ok' := fun k_ => (True ∧ some k_ ≠ (.slice A67 y397.length c67 : Value).ownBlock)) HO371.out (fun k_ hk => ⟨trivial, (by rw [HE67.out]; exact hk.2)⟩)); clear HO371; have HO371 := n_; clear n_; have hnb68 := NB365_0.out; have hnc68 := NB0_365.out; have hcz69_0 : w65.cell? ⟨gb365, 0, none⟩ = some (.slice none 0 0) := (blk_cell BK365.out 0).trans rfl; have hcz69_1 : w65.cell? ⟨gb365, 1, none⟩ = some (.slice none 0 0) := (blk_cell BK365.out 1).trans rfl; have hfz69_0 := blk_frozen BK365.out 0; have hfz69_1 := blk_frozen BK365.out 1))
      refine bodyPost_ret (results_cell_row rfl _ _ gb365 37 #[.slice Ao62 y378.length co62, .slice A67 y397.length c67] (0, 0) _ rfl (by refine bk_ ?_; refine blk_put (cs := #[.slice Ao62 y378.length co62, .slice none 0 0]) ?_ 1 _ rfl; refine bk_ ?_; refine blk_put (cs := #[.slice none 0 0, .slice none 0 0]) ?_ 0 _ rfl; refine bk_ ?_; refine blk_far ?_ NB365_374.out _; exact bk_ BK365.out) Tryd.underlying37 rfl (by kernel_rfl)) rfl ?_
      exact ⟨_, _, by first | rfl | (simp [errW_none, errW_some] <;> rfl) | (simp [*, errW_none, errW_some] <;> rfl), by refine rr_ ?_; exact Kd.R_mono (Kd.R_far (p := ⟨gb365, 1, none⟩) (Kd.R_far (p := ⟨gb365, 0, none⟩) (Kd.R_far (p := ⟨gb374, 1, none⟩) (Kd.R_types (Kd.R_types HO380.out BK374.out (by decide)) BK365.out (by decide)) (fun _ hk => hk.1.2) (.slice A67 y397.length c67)) (fun _ hk => hk.2) (.slice Ao62 y378.length co62)) (fun _ hk => hk.2) (.slice A67 y397.length c67)) (fun _ hk => trivial), by refine qq_ ?_; exact Kd.Q_mono (Kd.Q_far (p := ⟨gb365, 1, none⟩) (Kd.Q_far (p := ⟨gb365, 0, none⟩) (Kd.Q_far (p := ⟨gb374, 1, none⟩) (Kd.Q_types (Kd.Q_types HO399.out BK374.out (by decide)) BK365.out (by decide)) (fun _ hk => hk.1.2) (.slice A67 y397.length c67)) (fun _ hk => hk.2) (.slice Ao62 y378.length co62)) (fun _ hk => hk.2) (.slice A67 y397.length c67)) (fun _ hk => trivial), by exact iS, by exact bI, by exact kS⟩
     ·rw [if_neg c43] at H
      exact absurd H (by simp)
    ·rw [if_neg c42] at H
     have c42b0 : (t387 == 1) = false := beq_eq_false_iff_ne.mpr c42
     have c42b1 : (t387 != 1) = true := bne_iff_ne.mpr c42
     by_cases c70 : t387 = 2
     ·rw [if_pos c70] at H
      have c70b0 : (t387 == 2) = true := beq_iff_eq.mpr c70
      have c70b1 : (t387 != 2) = false := bne_eq_false_iff_eq.mpr c70
      clear c70
      replace H := Option.bind_eq_some_iff.mp H
      obtain ⟨⟨t400, t401, t402, t403⟩, A710, H⟩ := H
      try dsimp only at H
      have A71 := Aside0.mk A710
      clear A710
      by_cases c72 : 0 < (y384.length : Int)
      ·rw [if_pos c72] at H
       have c72b0 : decide (0 < (y384.length : Int)) = true := decide_eq_true c72
       have c72b1 : decide (0 < y384.length) = true := decide_eq_true (by omega)
       clear c72
       obtain ⟨y404, hy404⟩ : ∃ y_ : List (S55), y_ = (y384.set (0 : Int).toNat (⟨t400, t401⟩ : S55)) := ⟨_, rfl⟩
       replace H : (some (y378, y404, t402, t403)) = some (r1, r2, r3, r4) := by first | (rw [hy404]; with_reducible exact H) | (have H2_ := (Option.bind_some _ _).symm.trans H; rw [hy404]; with_reducible exact H2_) | (have H2_ := (Option.bind_some _ _).symm.trans H; with_reducible exact H2_) | with_reducible exact H | (rw [hy404]; exact H) | exact H
       have Ny404 := Aside0.mk hy404
       clear hy404
       simp only [Option.some.injEq, Prod.mk.injEq] at H
       obtain ⟨rfl, rfl, rfl, rfl⟩ := H
       go_enter Tryd.func47, Tryd.ntmps47
       try go_wp2_with (first | ((with_reducible refine gate_dst (N := 2) rfl ?_); refine box_event ?hg (N := 2) ?hd (cs := #[.slice none 0 0, .slice none 0 0]) (t := 37) ?hr ?_; (case hd => rfl); (case hg => rfl); (case hr => first | (go_simp; done) | (go_simp; rfl)); intro gb365 hg w74 hbox hb; replace HB := Aside0.mk (below_step bI hb); have BK365 := Aside0.mk (hbox); have GW365 := Aside0.mk ((by rw [hg]; exact (kz w g) : w.heap.size ≤ gb365)); have GE365 := Aside0.mk ((Nat.le_trans HW0.out (by rw [hg]; exact (kz w g) : w.heap.size ≤ gb365) : w0.heap.size ≤ gb365)); replace HK := Aside0.mk (KeepBut.trans kS (KeepBut.of_below hb g none) (.inl rfl)); have NB0_365 := Aside0.mk ((by rw [hg]; exact Nat.ne_of_lt (IsS92.lt (show IsS92 w0 _ g s0_0 s0_1 s0_2 from iS)) : g ≠ gb365)); have NB365_0 := Aside0.mk ((by rw [hg]; exact Nat.ne_of_gt (IsS92.lt (show IsS92 w0 _ g s0_0 s0_1 s0_2 from iS)) : gb365 ≠ g)); replace HI0 := Aside0.mk (IsS92.below iS hb); clear hb hbox hg) | ((with_reducible refine gate_callee (f := 68) rfl ?_); refine goesL_ (some 5) rfl rfl Tryd.func68 (by kernel_rfl) rfl #[.pointer (some ⟨g, 0, none⟩)] rfl lm_ ?_; (with_reducible refine (spec_l06Path.calls k g s0_0 s0_1 s0_2 t366 t369 t372 t373 w0 _ ?side1 ?side2 A2.out).mono ?_); (case side1 => exact iS); (case side2 => exact bI); rintro e w75 ⟨v367, v370, rfl, ho0, ho1, hi, hb, hk⟩; refine ⟨_, rfl, ?_⟩; replace BK365 := Aside0.mk (KeepBut.blk hk BK365.out NB365_0.out (by simp)); have HO368 := Aside0.mk (Kd.R_lower ho0 (kz w g)); have HO371 := Aside0.mk (Kd.R_lower ho1 (kz w g)); replace HK := Aside0.mk (KeepBut.trans kS hk (.inl rfl)); replace HB := Aside0.mk (hb); replace HI0 := Aside0.mk (hi); (try clear hb hk hi ho0 ho1)) | ((with_reducible refine gate_dst (N := 3) rfl ?_); refine box_event ?hg (N := 3) ?hd (cs := #[.slice none 0 0, .slice none 0 0]) (t := 37) ?hr ?_; (case hd => rfl); (case hg => rfl); (case hr => first | (go_simp; done) | (go_simp; rfl)); intro gb374 hg w76 hbox hb; replace HO368 := Aside0.mk (Kd.R_below (rr_ HO368.out) hb); replace HO371 := Aside0.mk (Kd.R_below (rr_ HO371.out) hb); replace HB := Aside0.mk (below_step bI hb); have BK374 := Aside0.mk (hbox); have GW374 := Aside0.mk ((by rw [hg]; exact (kz w g) : w.heap.size ≤ gb374)); have GE374 := Aside0.mk ((Nat.le_trans HW0.out (by rw [hg]; exact (kz w g) : w.heap.size ≤ gb374) : w0.heap.size ≤ gb374)); replace HK := Aside0.mk (KeepBut.trans kS (KeepBut.of_below hb g none) (.inl rfl)); have NB365_374 := Aside0.mk ((by rw [hg]; exact Nat.ne_of_lt (blk_lt BK365.out) : gb365 ≠ gb374)); have NB374_365 := Aside0.mk ((by rw [hg]; exact Nat.ne_of_gt (blk_lt BK365.out) : gb374 ≠ gb365)); replace BK365 := Aside0.mk (blk_below BK365.out hb); have NB0_374 := Aside0.mk ((by rw [hg]; exact Nat.ne_of_lt (IsS92.lt (show IsS92 w0 _ g s0_0 t372 t373 from iS)) : g ≠ gb374)); have NB374_0 := Aside0.mk ((by rw [hg]; exact Nat.ne_of_gt (IsS92.lt (show IsS92 w0 _ g s0_0 t372 t373 from iS)) : gb374 ≠ g)); replace HI0 := Aside0.mk (IsS92.below iS hb); clear hb hbox hg; obtain ⟨Ao77, co77, eo77⟩ := Kd.R_slice HO368.out; subst eo77; have hnb78 := NB374_365.out; have hnc78 := NB365_374.out; have hnb79 := NB374_0.out; have hnc79 := NB0_374.out; have hcz80_0 : w76.cell? ⟨gb374, 0, none⟩ = some (.slice none 0 0) := (blk_cell BK374.out 0).trans rfl; have hcz80_1 : w76.cell? ⟨gb374, 1, none⟩ = some (.slice none 0 0) := (blk_cell BK374.out 1).trans rfl; have hfz80_0 := blk_frozen BK374.out 0; have hfz80_1 := blk_frozen BK374.out 1; obtain ⟨Ao81, co81, eo81⟩ := Kd.R_slice HO371.out; subst eo81))
       have n0_ : Aside0 (Kd.R (Kd.int .i64) 3 ((w76.setCell ⟨gb374, 0, none⟩ (.slice Ao77 t366.length co77)).setCell ⟨gb374, 1, none⟩ (.slice Ao81 t369.length co81)) w.heap.size (fun _ => True) (.slice Ao77 t366.length co77) t366) := ⟨by refine rr_ ?_; exact Kd.R_mono (Kd.R_far (p := ⟨gb374, 1, none⟩) (Kd.R_far (p := ⟨gb374, 0, none⟩) (Kd.R_types HO368.out BK374.out (by decide)) (fun _ hk => hk.2) (.slice Ao77 t366.length co77)) (fun _ hk => hk.2) (.slice Ao81 t369.length co81)) (fun _ hk => trivial)⟩
       have n1_ : Aside0 (Kd.R k55 55 ((w76.setCell ⟨gb374, 0, none⟩ (.slice Ao77 t366.length co77)).setCell ⟨gb374, 1, none⟩ (.slice Ao81 t369.length co81)) w.heap.size (fun _ => True) (.slice Ao81 t369.length co81) t369) := ⟨by refine rr_ ?_; exact Kd.R_mono (Kd.R_far (p := ⟨gb374, 1, none⟩) (Kd.R_far (p := ⟨gb374, 0, none⟩) (Kd.R_types HO371.out BK374.out (by decide)) (fun _ hk => hk.2) (.slice Ao77 t366.length co77)) (fun _ hk => hk.2) (.slice Ao81 t369.length co81)) (fun _ hk => trivial)⟩
       have n2_ : Aside0 (((w76.setCell ⟨gb374, 0, none⟩ (.slice Ao77 t366.length co77)).setCell ⟨gb374, 1, none⟩ (.slice Ao81 t369.length co81)).heap[gb365]? = some (.cells #[.slice none 0 0, .slice none 0 0] 37 (0, 0))) := ⟨bf_ BK365.out⟩
       have n3_ : Aside0 (((w76.setCell ⟨gb374, 0, none⟩ (.slice Ao77 t366.length co77)).setCell ⟨gb374, 1, none⟩ (.slice Ao81 t369.length co81)).heap[gb374]? = some (.cells #[.slice Ao77 t366.length co77, .slice Ao81 t369.length co81] 37 (0, 0))) := ⟨by refine bk_ ?_; refine blk_put (cs := #[.slice Ao77 t366.length co77, .slice none 0 0]) ?_ 1 _ rfl; refine bk_ ?_; refine blk_put (cs := #[.slice none 0 0, .slice none 0 0]) ?_ 0 _ rfl; exact bk_ BK374.out⟩
       have n4_ : Aside0 (IsS92 w0 ((w76.setCell ⟨gb374, 0, none⟩ (.slice Ao77 t366.length co77)).setCell ⟨gb374, 1, none⟩ (.slice Ao81 t369.length co81)) g s0_0 t372 t373) := ⟨iS⟩
       have n5_ : Aside0 (KeepBut w ((w76.setCell ⟨gb374, 0, none⟩ (.slice Ao77 t366.length co77)).setCell ⟨gb374, 1, none⟩ (.slice Ao81 t369.length co81)) g none) := ⟨kS⟩
       have n6_ : Aside0 (Below w0.heap.size w0 ((w76.setCell ⟨gb374, 0, none⟩ (.slice Ao77 t366.length co77)).setCell ⟨gb374, 1, none⟩ (.slice Ao81 t369.length co81))) := ⟨bI⟩
       (try clear HO368); (try clear HO371); (try clear BK365); (try clear BK374); (try clear HI0); (try clear HK); (try clear HB)
       generalize ((w76.setCell ⟨gb374, 0, none⟩ (.slice Ao77 t366.length co77)).setCell ⟨gb374, 1, none⟩ (.slice Ao81 t369.length co81)) = w82 at n0_ n1_ n2_ n3_ n4_ n5_ n6_ ⊢
       have HO368 := n0_
       have HO371 := n1_
       have BK365 := n2_
       have BK374 := n3_
       have HI0 := n4_
       have HK := n5_
       have HB := n6_
       clear n0_ n1_ n2_ n3_ n4_ n5_ n6_
       replace HO368 := Aside0.mk (Kd.R_drew HO368.out)
       replace HO371 := Aside0.mk (Kd.R_drew HO371.out)
       replace BK365 := Aside0.mk (blk_drew BK365.out)
       replace BK374 := Aside0.mk (blk_drew BK374.out)
       replace HI0 := Aside0.mk (IsS92.drew HI0.out)
       replace HK := Aside0.mk (keep_drew HK.out)
       replace HB := Aside0.mk (below_drew1 HB.out)
       refine start_ (n := 10) (S := fun w' => w'.cell? ⟨gb374, 0, none⟩ = some (.slice Ao77 t366.length co77) ∧ w'.cell? ⟨gb374, 1, none⟩ = some (.slice Ao81 t369.length co81)) (ds := [9]) #[F,F,F,F,F,F,F,F,F,F] (by kernel_rfl) rfl rfl ⟨(blk_cell BK374.out 0).trans rfl, (blk_cell BK374.out 1).trans rfl⟩ (fun hHeld => ?_); refine with_tabW spec_l06Any.tab2 spec_l06Any.bits2 (fun HT_ HW_ => ?_)
       generalize w82.drew = w83 at HO368 HO371 BK365 BK374 HI0 HK HB hHeld ⊢
       refine pure_ (i := 1) (N := some 7) (v := ?_) (a' := ?_) #[F,T,F,F,F,F,F,F,F,F] rfl rfl (any_of HT_.out (by kernel_rfl)) (fun _ _ _ h => h) (Or.inl ⟨by rfl, ?_⟩) ?_ ?_; rotate_left
       ·intro w'; go_simp; with_reducible rfl
       rotate_left
       ·simp only [PS]; rfl
       refine pure_ (i := 5) (N := some 11) (v := ?_) (a' := ?_) #[F,T,F,F,F,T,F,F,F,F] rfl rfl (any_of HT_.out (by kernel_rfl)) (fun _ _ _ h => h) (Or.inl ⟨by rfl, ?_⟩) ?_ ?_; rotate_left
       ·intro w'; go_simp; with_reducible rfl
       rotate_left
       ·simp only [PS]; rfl
       refine take_ (i := 2) (N := some 8) (v := ?_) (a' := ?_) #[F,T,T,F,F,T,F,F,F,F] rfl rfl (take_ofW HT_.out HW_.out (by kernel_rfl)) (fun _ _ _ h => h) (Or.inl ⟨by rfl, ?_⟩) hHeld ?_ ?_; rotate_left
       ·rintro w' ⟨s0, s1⟩; go_simp; with_reducible rfl
       rotate_left
       ·simp only [PS]; rfl
       refine take_ (i := 6) (N := some 12) (v := ?_) (a' := ?_) #[F,T,T,F,F,T,T,F,F,F] rfl rfl (take_ofW HT_.out HW_.out (by kernel_rfl)) (fun _ _ _ h => h) (Or.inl ⟨by rfl, ?_⟩) hHeld ?_ ?_; rotate_left
       ·rintro w' ⟨s0, s1⟩; go_simp; with_reducible rfl
       rotate_left
       ·simp only [PS]; rfl
       refine join_ (σ := Value × Value × Value) 3 #[T,T,T,T,T,T,T,F,F,F] (fun s_ => [(6, s_.1), (9, s_.2.1), (10, s_.2.2)]) (fun s_ w' => (w'.cell? ⟨gb374, 0, none⟩ = some (.slice Ao77 t366.length co77) ∧ w'.cell? ⟨gb374, 1, none⟩ = some (.slice Ao81 t369.length co81)) ∧ (Kd.R (Kd.int .i64) 3 w' w.heap.size (fun k_ => some k_ ≠ (s_.2.1 : Value).ownBlock) (.slice Ao77 t366.length co77) t366) ∧ (Kd.R k55 55 w' w.heap.size (fun k_ => some k_ ≠ (s_.2.2 : Value).ownBlock) (.slice Ao81 t369.length co81) t369) ∧ (Kd.R (Kd.int .i64) 3 w' w.heap.size (fun k_ => some k_ ≠ (.slice Ao77 t366.length co77 : Value).ownBlock) s_.2.1 y378) ∧ (Kd.R k55 55 w' w.heap.size (fun k_ => some k_ ≠ (.slice Ao81 t369.length co81 : Value).ownBlock) s_.2.2 y381) ∧ (w'.heap[gb365]? = some (.cells #[.slice none 0 0, .slice none 0 0] 37 (0, 0))) ∧ (w'.heap[gb374]? = some (.cells #[.slice Ao77 t366.length co77, .slice Ao81 t369.length co81] 37 (0, 0))) ∧ (IsS92 w0 w' g s0_0 t372 t373) ∧ (KeepBut w w' g none) ∧ (Below w0.heap.size w0 w')) ?_ ?_
       rotate_left
       ·intro hCont
        refine two_ (i := 0) (j := 4) (Ni := some 6) (Nj := some 10) #[T,T,T,F,F,T,T,F,F,F] #[F,T,T,F,T,T,T,F,F,F] rfl rfl rfl rfl (two_of HT_.out (by kernel_rfl)) (by decide) (by decide) (fun K hK => ?_) (fun K hK => ?_)
        ·skip
         refine Kd.R_lit_step (Kd.int .i64) _ 3 ?hg (N := 6) ?hd (xs := ([] : List Int)) (inner := []) (ok := fun _ => True) (okp := fun _ => True) ?hr ?hp (fun _ hk => hk) trivial (Below.refl _ _) (Nat.le_refl _) (by simp) ?_; (case hd => rfl); (case hg => rfl); (case hr => first | (go_simp; done) | (go_simp; rfl)); (case hp => exact (Reps.none _ _))
         intro v376 w84 ho85 hb hg_ hnew_
         clear hg_ hnew_
         (first | rw [← Ny375.out] at ho85 | (simp only [Int.reduceToNat] at ho85; rw [← Ny375.out] at ho85))
         replace HO371 := Aside0.mk (Kd.R_below (rr_ HO371.out) hb)
         have HO377 := Aside0.mk (Kd.R_lower (Kd.R_new' ho85 (Kd.R_lt (rr_ HO368.out))) (kz w g))
         replace HO368 := Aside0.mk (Kd.R_elder' (rr_ HO368.out) (Kd.R_base ho85) hb)
         replace BK365 := Aside0.mk (blk_below BK365.out hb)
         replace BK374 := Aside0.mk (blk_below BK374.out hb)
         replace HK := Aside0.mk (KeepBut.trans kS (KeepBut.of_below hb g none) (.inl rfl))
         replace HB := Aside0.mk (below_step bI hb)
         replace HI0 := Aside0.mk (IsS92.below iS hb)
         clear hb ho85
         refine hK.out _ _ ⟨(blk_cell BK374.out 0).trans rfl, (blk_cell BK374.out 1).trans rfl⟩ (fun hHeld => ?_)
         clear hK K
         refine norm_ (a' := ?_) ?_ ?_; rotate_left
         ·show Act.put _ (some 6) _ = _
          simp only [PS]
          rfl
         refine two_ (i := 3) (j := 4) (Ni := some 9) (Nj := some 10) #[T,T,T,T,F,T,T,F,F,F] #[T,T,T,F,T,T,T,F,F,F] rfl rfl rfl rfl (two_of HT_.out (by kernel_rfl)) (by decide) (by decide) (fun K hK => ?_) (fun K hK => ?_)
         ·skip
          refine Kd.R_append_rows_step (Kd.int .i64) w.heap.size (by rfl) (.tmp 6) (.tmp 8) 28 3 (.int .i64 0) 8 rfl Tryd.underlying28 info3 rfl (by decide) (by omega) v376 y375 t366 _ _ _ (fun k_ => some k_ ≠ (.slice Ao77 t366.length co77 : Value).ownBlock) (fun _ => False) rfl rfl ?aO ?aR (fun _ _ h => h) (fun _ h => h.elim) ?aF (Below.refl _ _) ?aS ?aL ?_
          (case aR => exact cc_ (Kd.R_reads' HO368.out).2.2)
          (case aF => exact (fun k_ hk => Kd.fresh' (Kd.R_lt (rr_ HO368.out)) k_ hk))
          (case aO => exact (by refine rr_ ?_; exact Kd.R_mono HO377.out (fun _ hk => hk.2)))
          (case aS => exact (kz w g))
          (case aL => have := LMc3.out; omega)
          intro v379 w86 ho hb hg hat
          rw [← Ny378.out] at ho
          have n0_ := Aside0.mk (IsS92.grown iS hg (IsS92.own_ne HI0.out HO377.out (by decide)))
          have n1_ := Aside0.mk (blk_grown BK365.out hg (Kd.R_ne HO377.out BK365.out (by decide)))
          have n2_ := Aside0.mk (Kd.R_after (ok := (fun _ => True)) (rr_ HO368.out) hg hat)
          have n3_ := Aside0.mk (Kd.R_over' (rr_ HO371.out) (Kd.R_typed (rr_ HO377.out)) (by decide) hg)
          have n4_ := Aside0.mk (blk_grown BK374.out hg (Kd.R_ne HO377.out BK374.out (by decide)))
          have n5_ := Aside0.mk (below_weaken bI HL.out hb)
          have n6_ := Aside0.mk (KeepBut.trans kS (KeepBut.of_grown hg g) (Kd.R_base2 HO377.out))
          have n7_ := Aside0.mk (ho)
          clear HI0 BK365 HO368 HO371 BK374 HB HK HO377
          have HI0 := n0_
          have BK365 := n1_
          have HO368 := n2_
          have HO371 := n3_
          have BK374 := n4_
          have HB := n5_
          have HK := n6_
          have HO380 := n7_
          clear n0_ n1_ n2_ n3_ n4_ n5_ n6_ n7_ ho hb hg hat
          refine hK.out _ _ ⟨(blk_cell BK374.out 0).trans rfl, (blk_cell BK374.out 1).trans rfl⟩ (fun hHeld => ?_)
          clear hK K
          refine norm_ (a' := ?_) ?_ ?_; rotate_left
          ·show Act.put _ (some 9) _ = _
           simp only [PS]
           rfl
          refine one_ (i := 4) (N := some 10) #[T,T,T,T,T,T,T,F,F,F] rfl rfl (one_of HT_.out (by kernel_rfl)) (by decide) (fun K hK => ?_)
          refine Kd.R_lit_step k55 _ 55 ?hg (N := 10) ?hd (xs := ([] : List (S55))) (inner := []) (ok := fun _ => True) (okp := fun _ => True) ?hr ?hp (fun _ hk => hk) trivial (Below.refl _ _) (Nat.le_refl _) (by simp) ?_; (case hd => rfl); (case hg => rfl); (case hr => first | (go_simp; done) | (go_simp; rfl)); (case hp => exact (Reps.none _ _))
          intro v382 w87 ho88 hb hg_ hnew_
          clear hg_ hnew_
          (first | rw [← Ny381.out] at ho88 | (simp only [Int.reduceToNat] at ho88; rw [← Ny381.out] at ho88))
          replace HO368 := Aside0.mk (Kd.R_below (rr_ HO368.out) hb)
          replace HO380 := Aside0.mk (Kd.R_below (rr_ HO380.out) hb)
          have HO383 := Aside0.mk (Kd.R_lower (Kd.R_new' ho88 (Kd.R_lt (rr_ HO371.out))) (kz w g))
          replace HO371 := Aside0.mk (Kd.R_elder' (rr_ HO371.out) (Kd.R_base ho88) hb)
          replace BK365 := Aside0.mk (blk_below BK365.out hb)
          replace BK374 := Aside0.mk (blk_below BK374.out hb)
          replace HK := Aside0.mk (KeepBut.trans kS (KeepBut.of_below hb g none) (.inl rfl))
          replace HB := Aside0.mk (below_step bI hb)
          replace HI0 := Aside0.mk (IsS92.below iS hb)
          clear hb ho88
          refine hK.out _ _ ⟨(blk_cell BK374.out 0).trans rfl, (blk_cell BK374.out 1).trans rfl⟩ (fun hHeld => ?_)
          clear hK K
          refine norm_ (a' := ?_) ?_ ?_; rotate_left
          ·show Act.put _ (some 10) _ = _
           simp only [PS]
           rfl
          exact norm_ (by simp only [putAll, Act.put, List.setIfInBounds_toArray, List.set_cons_zero, List.set_cons_succ]) (hCont (v376, v379, v382) _ ⟨hHeld, (by refine rr_ ?_; exact Kd.R_mono HO368.out (fun _ hk => hk.2)), (by refine rr_ ?_; exact Kd.R_mono HO371.out (fun _ hk => hk.2)), (rr_ HO380.out), (by refine rr_ ?_; exact Kd.R_mono HO383.out (fun _ hk => hk.2)), (by exact BK365.out), (by exact BK374.out), iS, kS, bI⟩)
         ·skip
          refine Kd.R_lit_step k55 _ 55 ?hg (N := 10) ?hd (xs := ([] : List (S55))) (inner := []) (ok := fun _ => True) (okp := fun _ => True) ?hr ?hp (fun _ hk => hk) trivial (Below.refl _ _) (Nat.le_refl _) (by simp) ?_; (case hd => rfl); (case hg => rfl); (case hr => first | (go_simp; done) | (go_simp; rfl)); (case hp => exact (Reps.none _ _))
          intro v382 w86 ho87 hb hg_ hnew_
          clear hg_ hnew_
          (first | rw [← Ny381.out] at ho87 | (simp only [Int.reduceToNat] at ho87; rw [← Ny381.out] at ho87))
          replace HO368 := Aside0.mk (Kd.R_below (rr_ HO368.out) hb)
          replace HO377 := Aside0.mk (Kd.R_below (rr_ HO377.out) hb)
          have HO383 := Aside0.mk (Kd.R_lower (Kd.R_new' ho87 (Kd.R_lt (rr_ HO371.out))) (kz w g))
          replace HO371 := Aside0.mk (Kd.R_elder' (rr_ HO371.out) (Kd.R_base ho87) hb)
          replace BK365 := Aside0.mk (blk_below BK365.out hb)
          replace BK374 := Aside0.mk (blk_below BK374.out hb)
          replace HK := Aside0.mk (KeepBut.trans kS (KeepBut.of_below hb g none) (.inl rfl))
          replace HB := Aside0.mk (below_step bI hb)
          replace HI0 := Aside0.mk (IsS92.below iS hb)
          clear hb ho87
          refine hK.out _ _ ⟨(blk_cell BK374.out 0).trans rfl, (blk_cell BK374.out 1).trans rfl⟩ (fun hHeld => ?_)
          clear hK K
          refine norm_ (a' := ?_) ?_ ?_; rotate_left
          ·show Act.put _ (some 10) _ = _
           simp only [PS]
           rfl
          refine one_ (i := 3) (N := some 9) #[T,T,T,T,T,T,T,F,F,F] rfl rfl (one_of HT_.out (by kernel_rfl)) (by decide) (fun K hK => ?_)
          refine Kd.R_append_rows_step (Kd.int .i64) w.heap.size (by rfl) (.tmp 6) (.tmp 8) 28 3 (.int .i64 0) 8 rfl Tryd.underlying28 info3 rfl (by decide) (by omega) v376 y375 t366 _ _ _ (fun k_ => some k_ ≠ (.slice Ao77 t366.length co77 : Value).ownBlock) (fun _ => False) rfl rfl ?aO ?aR (fun _ _ h => h) (fun _ h => h.elim) ?aF (Below.refl _ _) ?aS ?aL ?_
          (case aR => exact cc_ (Kd.R_reads' HO368.out).2.2)
          (case aF => exact (fun k_ hk => Kd.fresh' (Kd.R_lt (rr_ HO368.out)) k_ hk))
          (case aO => exact (by refine rr_ ?_; exact Kd.R_mono HO377.out (fun _ hk => hk.2)))
          (case aS => exact (kz w g))
          (case aL => have := LMc3.out; omega)
          intro v379 w88 ho hb hg hat
          rw [← Ny378.out] at ho
          have n0_ := Aside0.mk (IsS92.grown iS hg (IsS92.own_ne HI0.out HO377.out (by decide)))
          have n1_ := Aside0.mk (blk_grown BK365.out hg (Kd.R_ne HO377.out BK365.out (by decide)))
          have n2_ := Aside0.mk (Kd.R_after (ok := (fun _ => True)) (rr_ HO368.out) hg hat)
          have n3_ := Aside0.mk (Kd.R_over' (rr_ HO371.out) (Kd.R_typed (rr_ HO377.out)) (by decide) hg)
          have n4_ := Aside0.mk (blk_grown BK374.out hg (Kd.R_ne HO377.out BK374.out (by decide)))
          have n5_ := Aside0.mk (Kd.R_over' (rr_ HO383.out) (Kd.R_typed (rr_ HO377.out)) (by decide) hg)
          have n6_ := Aside0.mk (below_weaken bI HL.out hb)
          have n7_ := Aside0.mk (KeepBut.trans kS (KeepBut.of_grown hg g) (Kd.R_base2 HO377.out))
          have n8_ := Aside0.mk (ho)
          clear HI0 BK365 HO368 HO371 BK374 HO383 HB HK HO377
          have HI0 := n0_
          have BK365 := n1_
          have HO368 := n2_
          have HO371 := n3_
          have BK374 := n4_
          have HO383 := n5_
          have HB := n6_
          have HK := n7_
          have HO380 := n8_
          clear n0_ n1_ n2_ n3_ n4_ n5_ n6_ n7_ n8_ ho hb hg hat
          refine hK.out _ _ ⟨(blk_cell BK374.out 0).trans rfl, (blk_cell BK374.out 1).trans rfl⟩ (fun hHeld => ?_)
          clear hK K
          refine norm_ (a' := ?_) ?_ ?_; rotate_left
          ·show Act.put _ (some 9) _ = _
           simp only [PS]
           rfl
          exact norm_ (by simp only [putAll, Act.put, List.setIfInBounds_toArray, List.set_cons_zero, List.set_cons_succ]) (hCont (v376, v379, v382) _ ⟨hHeld, (by refine rr_ ?_; exact Kd.R_mono HO368.out (fun _ hk => hk.2)), (by refine rr_ ?_; exact Kd.R_mono HO371.out (fun _ hk => hk.2)), (rr_ HO380.out), (by refine rr_ ?_; exact Kd.R_mono HO383.out (fun _ hk => hk.2)), (by exact BK365.out), (by exact BK374.out), iS, kS, bI⟩)
        ·skip
         refine Kd.R_lit_step k55 _ 55 ?hg (N := 10) ?hd (xs := ([] : List (S55))) (inner := []) (ok := fun _ => True) (okp := fun _ => True) ?hr ?hp (fun _ hk => hk) trivial (Below.refl _ _) (Nat.le_refl _) (by simp) ?_; (case hd => rfl); (case hg => rfl); (case hr => first | (go_simp; done) | (go_simp; rfl)); (case hp => exact (Reps.none _ _))
         intro v382 w84 ho85 hb hg_ hnew_
         clear hg_ hnew_
         (first | rw [← Ny381.out] at ho85 | (simp only [Int.reduceToNat] at ho85; rw [← Ny381.out] at ho85))
         replace HO368 := Aside0.mk (Kd.R_below (rr_ HO368.out) hb)
         have HO383 := Aside0.mk (Kd.R_lower (Kd.R_new' ho85 (Kd.R_lt (rr_ HO371.out))) (kz w g))
         replace HO371 := Aside0.mk (Kd.R_elder' (rr_ HO371.out) (Kd.R_base ho85) hb)
         replace BK365 := Aside0.mk (blk_below BK365.out hb)
         replace BK374 := Aside0.mk (blk_below BK374.out hb)
         replace HK := Aside0.mk (KeepBut.trans kS (KeepBut.of_below hb g none) (.inl rfl))
         replace HB := Aside0.mk (below_step bI hb)
         replace HI0 := Aside0.mk (IsS92.below iS hb)
         clear hb ho85
         refine hK.out _ _ ⟨(blk_cell BK374.out 0).trans rfl, (blk_cell BK374.out 1).trans rfl⟩ (fun hHeld => ?_)
         clear hK K
         refine norm_ (a' := ?_) ?_ ?_; rotate_left
         ·show Act.put _ (some 10) _ = _
          simp only [PS]
          rfl
         refine one_ (i := 0) (N := some 6) #[T,T,T,F,T,T,T,F,F,F] rfl rfl (one_of HT_.out (by kernel_rfl)) (by decide) (fun K hK => ?_)
         refine Kd.R_lit_step (Kd.int .i64) _ 3 ?hg (N := 6) ?hd (xs := ([] : List Int)) (inner := []) (ok := fun _ => True) (okp := fun _ => True) ?hr ?hp (fun _ hk => hk) trivial (Below.refl _ _) (Nat.le_refl _) (by simp) ?_; (case hd => rfl); (case hg => rfl); (case hr => first | (go_simp; done) | (go_simp; rfl)); (case hp => exact (Reps.none _ _))
         intro v376 w86 ho87 hb hg_ hnew_
         clear hg_ hnew_
         (first | rw [← Ny375.out] at ho87 | (simp only [Int.reduceToNat] at ho87; rw [← Ny375.out] at ho87))
         replace HO371 := Aside0.mk (Kd.R_below (rr_ HO371.out) hb)
         replace HO383 := Aside0.mk (Kd.R_below (rr_ HO383.out) hb)
         have HO377 := Aside0.mk (Kd.R_lower (Kd.R_new' ho87 (Kd.R_lt (rr_ HO368.out))) (kz w g))
         replace HO368 := Aside0.mk (Kd.R_elder' (rr_ HO368.out) (Kd.R_base ho87) hb)
         replace BK365 := Aside0.mk (blk_below BK365.out hb)
         replace BK374 := Aside0.mk (blk_below BK374.out hb)
         replace HK := Aside0.mk (KeepBut.trans kS (KeepBut.of_below hb g none) (.inl rfl))
         replace HB := Aside0.mk (below_step bI hb)
         replace HI0 := Aside0.mk (IsS92.below iS hb)
         clear hb ho87
         refine hK.out _ _ ⟨(blk_cell BK374.out 0).trans rfl, (blk_cell BK374.out 1).trans rfl⟩ (fun hHeld => ?_)
         clear hK K
         refine norm_ (a' := ?_) ?_ ?_; rotate_left
         ·show Act.put _ (some 6) _ = _
          simp only [PS]
          rfl
         refine one_ (i := 3) (N := some 9) #[T,T,T,T,T,T,T,F,F,F] rfl rfl (one_of HT_.out (by kernel_rfl)) (by decide) (fun K hK => ?_)
         refine Kd.R_append_rows_step (Kd.int .i64) w.heap.size (by rfl) (.tmp 6) (.tmp 8) 28 3 (.int .i64 0) 8 rfl Tryd.underlying28 info3 rfl (by decide) (by omega) v376 y375 t366 _ _ _ (fun k_ => some k_ ≠ (.slice Ao77 t366.length co77 : Value).ownBlock) (fun _ => False) rfl rfl ?aO ?aR (fun _ _ h => h) (fun _ h => h.elim) ?aF (Below.refl _ _) ?aS ?aL ?_
         (case aR => exact cc_ (Kd.R_reads' HO368.out).2.2)
         (case aF => exact (fun k_ hk => Kd.fresh' (Kd.R_lt (rr_ HO368.out)) k_ hk))
         (case aO => exact (by refine rr_ ?_; exact Kd.R_mono HO377.out (fun _ hk => hk.2)))
         (case aS => exact (kz w g))
         (case aL => have := LMc3.out; omega)
         intro v379 w88 ho hb hg hat
         rw [← Ny378.out] at ho
         have n0_ := Aside0.mk (IsS92.grown iS hg (IsS92.own_ne HI0.out HO377.out (by decide)))
         have n1_ := Aside0.mk (blk_grown BK365.out hg (Kd.R_ne HO377.out BK365.out (by decide)))
         have n2_ := Aside0.mk (Kd.R_after (ok := (fun _ => True)) (rr_ HO368.out) hg hat)
         have n3_ := Aside0.mk (Kd.R_over' (rr_ HO371.out) (Kd.R_typed (rr_ HO377.out)) (by decide) hg)
         have n4_ := Aside0.mk (blk_grown BK374.out hg (Kd.R_ne HO377.out BK374.out (by decide)))
         have n5_ := Aside0.mk (Kd.R_over' (rr_ HO383.out) (Kd.R_typed (rr_ HO377.out)) (by decide) hg)
         have n6_ := Aside0.mk (below_weaken bI HL.out hb)
         have n7_ := Aside0.mk (KeepBut.trans kS (KeepBut.of_grown hg g) (Kd.R_base2 HO377.out))
         have n8_ := Aside0.mk (ho)
         clear HI0 BK365 HO368 HO371 BK374 HO383 HB HK HO377
         have HI0 := n0_
         have BK365 := n1_
         have HO368 := n2_
         have HO371 := n3_
         have BK374 := n4_
         have HO383 := n5_
         have HB := n6_
         have HK := n7_
         have HO380 := n8_
         clear n0_ n1_ n2_ n3_ n4_ n5_ n6_ n7_ n8_ ho hb hg hat
         refine hK.out _ _ ⟨(blk_cell BK374.out 0).trans rfl, (blk_cell BK374.out 1).trans rfl⟩ (fun hHeld => ?_)
         clear hK K
         refine norm_ (a' := ?_) ?_ ?_; rotate_left
         ·show Act.put _ (some 9) _ = _
          simp only [PS]
          rfl
         exact norm_ (by simp only [putAll, Act.put, List.setIfInBounds_toArray, List.set_cons_zero, List.set_cons_succ]) (hCont (v376, v379, v382) _ ⟨hHeld, (by refine rr_ ?_; exact Kd.R_mono HO368.out (fun _ hk => hk.2)), (by refine rr_ ?_; exact Kd.R_mono HO371.out (fun _ hk => hk.2)), (rr_ HO380.out), (by refine rr_ ?_; exact Kd.R_mono HO383.out (fun _ hk => hk.2)), (by exact BK365.out), (by exact BK374.out), iS, kS, bI⟩)
       rintro ⟨v376, v379, v382⟩ w89 ⟨hS_, h0_, h1_, h2_, h3_, h4_, h5_, h6_, h7_, h8_⟩
       have n0_ : Aside0 (Kd.R (Kd.int .i64) 3 w89 w.heap.size (fun k_ => some k_ ≠ (v379 : Value).ownBlock) (.slice Ao77 t366.length co77) t366) := ⟨h0_⟩
       have n1_ : Aside0 (Kd.R k55 55 w89 w.heap.size (fun k_ => some k_ ≠ (v382 : Value).ownBlock) (.slice Ao81 t369.length co81) t369) := ⟨h1_⟩
       have n2_ : Aside0 (Kd.R (Kd.int .i64) 3 w89 w.heap.size (fun k_ => some k_ ≠ (.slice Ao77 t366.length co77 : Value).ownBlock) v379 y378) := ⟨h2_⟩
       have n3_ : Aside0 (Kd.R k55 55 w89 w.heap.size (fun k_ => some k_ ≠ (.slice Ao81 t369.length co81 : Value).ownBlock) v382 y381) := ⟨h3_⟩
       have n4_ : Aside0 (w89.heap[gb365]? = some (.cells #[.slice none 0 0, .slice none 0 0] 37 (0, 0))) := ⟨h4_⟩
       have n5_ : Aside0 (w89.heap[gb374]? = some (.cells #[.slice Ao77 t366.length co77, .slice Ao81 t369.length co81] 37 (0, 0))) := ⟨h5_⟩
       have n6_ : Aside0 (IsS92 w0 w89 g s0_0 t372 t373) := ⟨h6_⟩
       have n7_ : Aside0 (KeepBut w w89 g none) := ⟨h7_⟩
       have n8_ : Aside0 (Below w0.heap.size w0 w89) := ⟨h8_⟩
       clear HO368 HO371 BK365 BK374 HI0 HK HB h0_ h1_ h2_ h3_ h4_ h5_ h6_ h7_ h8_
       have HO368 := n0_
       have HO371 := n1_
       have HO380 := n2_
       have HO383 := n3_
       have BK365 := n4_
       have BK374 := n5_
       have HI0 := n6_
       have HK := n7_
       have HB := n8_
       clear n0_ n1_ n2_ n3_ n4_ n5_ n6_ n7_ n8_
       have hHeld : w89.cell? ⟨gb374, 0, none⟩ = some (.slice Ao77 t366.length co77) ∧ w89.cell? ⟨gb374, 1, none⟩ = some (.slice Ao81 t369.length co81) := hS_
       refine norm_ (a' := ?_) ?_ ?_; rotate_left
       ·simp only [putAll, Act.put, List.setIfInBounds_toArray, List.set_cons_zero, List.set_cons_succ]
        rfl
       refine one_ (i := 7) (N := some 13) #[T,T,T,T,T,T,T,T,F,F] rfl rfl (one_of HT_.out (by kernel_rfl)) (by decide) (fun K hK => ?_)
       refine Kd.R_append_rows_step k55 w.heap.size (by rfl) (.tmp 10) (.tmp 12) 35 55 (.agg #[(.int .i64 0), (.int .i64 0)]) 16 rfl Tryd.underlying35 info55 rfl (by decide) (by omega) v382 y381 t369 _ _ _ (fun k_ => some k_ ≠ (.slice Ao81 t369.length co81 : Value).ownBlock) (fun _ => False) rfl rfl ?aO ?aR (fun _ _ h => h) (fun _ h => h.elim) ?aF (Below.refl _ _) ?aS ?aL ?_
       (case aR => exact cc_ (Kd.R_reads' HO371.out).2.2)
       (case aF => exact (fun k_ hk => Kd.fresh' (Kd.R_lt (rr_ HO371.out)) k_ hk))
       (case aO => exact (rr_ HO383.out))
       (case aS => exact (kz w g))
       (case aL => have := LMc4.out; omega)
       intro v385 w90 ho hb hg hat
       rw [← Ny384.out] at ho
       have n0_ := Aside0.mk (IsS92.grown iS hg (IsS92.own_ne HI0.out HO383.out (by decide)))
       have n1_ := Aside0.mk (blk_grown BK365.out hg (Kd.R_ne HO383.out BK365.out (by decide)))
       have n2_ := Aside0.mk (Kd.R_over' (rr_ HO368.out) (Kd.R_typed (rr_ HO383.out)) (by decide) hg)
       have n3_ := Aside0.mk (Kd.R_after (ok := (fun _ => True)) (by refine rr_ ?_; exact Kd.R_mono HO371.out (fun _ hk => ⟨trivial, hk⟩)) hg hat)
       have n4_ := Aside0.mk (blk_grown BK374.out hg (Kd.R_ne HO383.out BK374.out (by decide)))
       have n5_ := Aside0.mk (Kd.R_over' (rr_ HO380.out) (Kd.R_typed (rr_ HO383.out)) (by decide) hg)
       have n6_ := Aside0.mk (below_weaken bI HL.out hb)
       have n7_ := Aside0.mk (KeepBut.trans kS (KeepBut.of_grown hg g) (Kd.R_base2 HO383.out))
       have n8_ := Aside0.mk (ho)
       clear HI0 BK365 HO368 HO371 BK374 HO380 HB HK HO383
       have HI0 := n0_
       have BK365 := n1_
       have HO368 := n2_
       have HO371 := n3_
       have BK374 := n4_
       have HO380 := n5_
       have HB := n6_
       have HK := n7_
       have HO386 := n8_
       clear n0_ n1_ n2_ n3_ n4_ n5_ n6_ n7_ n8_ ho hb hg hat
       obtain ⟨Ao91, co91, eo91⟩ := Kd.R_slice HO386.out
       (first | subst eo91 | (injection eo91 with f1_ f2_ f3_; have f4_ := f1_.symm; have f5_ := f3_.symm; clear f1_ f2_ f3_; subst f4_; subst f5_))
       obtain ⟨Ao92, co92, eo92⟩ := Kd.R_slice HO380.out
       (first | subst eo92 | (injection eo92 with f1_ f2_ f3_; have f4_ := f1_.symm; have f5_ := f3_.symm; clear f1_ f2_ f3_; subst f4_; subst f5_))
       refine hK.out _ _ ⟨(blk_cell BK374.out 0).trans rfl, (blk_cell BK374.out 1).trans rfl⟩ (fun hHeld => ?_)
       clear hK K
       refine norm_ (a' := ?_) ?_ ?_; rotate_left
       ·show Act.put _ (some 13) _ = _
        simp only [PS]
        rfl
       refine pure_ (i := 8) (N := some 14) (v := ?_) (a' := ?_) #[T,T,T,T,T,T,T,T,T,F] rfl rfl (any_of HT_.out (by kernel_rfl)) (fun _ _ _ h => h) (Or.inl ⟨by rfl, ?_⟩) ?_ ?_; rotate_left
       ·intro w'; go_simp; with_reducible rfl
       rotate_left
       ·simp only [PS]; rfl
       refine last_ (i := 9) (N := none) #[T,T,T,T,T,T,T,T,T,T] rfl rfl (one_of HT_.out (by kernel_rfl)) (by decide) (fun K hK => ?_)
       have hs93 : w90.cell? ⟨gb374, 0, none⟩ = some (.slice Ao77 t366.length co77) := (blk_cell BK374.out 0).trans rfl
       have hfs93 := blk_frozen BK374.out 0
       have hns93_0 := NB365_374.out
       have hms93_0 := NB374_365.out
       have hs94 : w90.cell? ⟨gb374, 1, none⟩ = some (.slice Ao81 t369.length co81) := (blk_cell BK374.out 1).trans rfl
       have hfs94 := blk_frozen BK374.out 1
       have hns94_0 := NB365_374.out
       have hms94_0 := NB374_365.out
       refine skip_ (w1 := ?_) (by rfl) rfl ?_ ?_; rotate_left
       ·go_simp
        rfl
       refine hK.out _ _ ?_
       clear hK K
       refine done_ (done_of HT_.out (by kernel_rfl)) ?_
       try go_wp2_with (first | ((with_reducible refine gate_callee (f := 53) rfl ?_); refine goesL_ (some 16) rfl rfl Tryd.func53 (by kernel_rfl) rfl #[.pointer (some ⟨g, 0, none⟩), .int .i64 16] rfl lm_ ?_; (with_reducible refine (spec_l01Below.calls g s0_0 t372 t373 16 t387 t388 t389 w0 _ ?side1 ?side2 A5.out).mono ?_); (case side1 => exact iS); (case side2 => exact bI); rintro e w95 ⟨rfl, hi, hb, hk⟩; refine ⟨_, rfl, ?_⟩; replace BK365 := Aside0.mk (KeepBut.blk hk (bf_ BK365.out) NB365_0.out (by simp)); replace HO368 := Aside0.mk (Kd.R_mono (Kd.R_keep (IsS92.apart (show IsS92 w0 _ g s0_0 t372 t373 from iS) (by refine rr_ ?_; exact (Kd.R_mono (Kd.R_far (p := ⟨gb374, 1, none⟩) (Kd.R_far (p := ⟨gb374, 0, none⟩) (Kd.R_types HO368.out BK374.out (by decide)) (fun _ hk => hk.2) (.slice Ao92 y378.length co92)) (fun _ hk => hk.2) (.slice Ao91 y384.length co91)) (fun _ h_ => h_.1))) (by decide)) hk (fun _ h => h.2)) (fun _ h => h.1)); replace HO371 := Aside0.mk (Kd.R_mono (Kd.R_keep (IsS92.apart (show IsS92 w0 _ g s0_0 t372 t373 from iS) (by refine rr_ ?_; exact (Kd.R_mono (Kd.R_far (p := ⟨gb374, 1, none⟩) (Kd.R_far (p := ⟨gb374, 0, none⟩) (Kd.R_types HO371.out BK374.out (by decide)) (fun _ hk => hk.2) (.slice Ao92 y378.length co92)) (fun _ hk => hk.2) (.slice Ao91 y384.length co91)) (fun _ h_ => h_.1))) (by decide)) hk (fun _ h => h.2)) (fun _ h => h.1)); replace HO380 := Aside0.mk (Kd.R_mono (Kd.R_keep (IsS92.apart (show IsS92 w0 _ g s0_0 t372 t373 from iS) (by refine rr_ ?_; exact (Kd.R_mono (Kd.R_far (p := ⟨gb374, 1, none⟩) (Kd.R_far (p := ⟨gb374, 0, none⟩) (Kd.R_types HO380.out BK374.out (by decide)) (fun _ hk => hk.2) (.slice Ao92 y378.length co92)) (fun _ hk => hk.2) (.slice Ao91 y384.length co91)) (fun _ h_ => h_.1))) (by decide)) hk (fun _ h => h.2)) (fun _ h => h.1)); replace HO386 := Aside0.mk (Kd.R_mono (Kd.R_keep (IsS92.apart (show IsS92 w0 _ g s0_0 t372 t373 from iS) (by refine rr_ ?_; exact (Kd.R_mono (Kd.R_far (p := ⟨gb374, 1, none⟩) (Kd.R_far (p := ⟨gb374, 0, none⟩) (Kd.R_types HO386.out BK374.out (by decide)) (fun _ hk => hk.2) (.slice Ao92 y378.length co92)) (fun _ hk => hk.2) (.slice Ao91 y384.length co91)) (fun _ h_ => h_.1))) (by decide)) hk (fun _ h => h.2)) (fun _ h => h.1)); replace BK374 := Aside0.mk (KeepBut.blk hk (g' := gb374) (o := .cells #[.slice Ao92 y378.length co92, .slice Ao91 y384.length co91] 37 (0, 0)) (by refine bk_ ?_; refine blk_put (cs := #[.slice Ao92 y378.length co92, .slice Ao81 t369.length co81]) ?_ 1 _ rfl; refine bk_ ?_; refine blk_put (cs := #[.slice Ao77 t366.length co77, .slice Ao81 t369.length co81]) ?_ 0 _ rfl; exact bk_ BK374.out) NB374_0.out (by simp)); replace HK := Aside0.mk (KeepBut.trans kS hk (.inl rfl)); replace HB := Aside0.mk (hb); replace HI0 := Aside0.mk (hi); (try clear hb hk hi)))
       replace HO368 := Aside0.mk (Kd.R_drew HO368.out)
       replace HO371 := Aside0.mk (Kd.R_drew HO371.out)
       replace HO380 := Aside0.mk (Kd.R_drew HO380.out)
       replace HO386 := Aside0.mk (Kd.R_drew HO386.out)
       replace BK365 := Aside0.mk (blk_drew BK365.out)
       replace BK374 := Aside0.mk (blk_drew BK374.out)
       replace HI0 := Aside0.mk (IsS92.drew HI0.out)
       replace HK := Aside0.mk (keep_drew HK.out)
       replace HB := Aside0.mk (below_drew1 HB.out)
       refine start_ (n := 6) (S := fun w' => w'.cell? ⟨gb374, 0, none⟩ = some (.slice Ao92 y378.length co92) ∧ w'.cell? ⟨gb374, 1, none⟩ = some (.slice Ao91 y384.length co91)) (ds := [5]) #[F,F,F,F,F,F] (by kernel_rfl) rfl rfl ⟨(blk_cell BK374.out 0).trans rfl, (blk_cell BK374.out 1).trans rfl⟩ (fun hHeld => ?_)
       generalize w95.drew = w96 at HO368 HO371 HO380 HO386 BK365 BK374 HI0 HK HB hHeld ⊢
       refine pure_ (i := 0) (N := some 37) (v := ?_) (a' := ?_) #[T,F,F,F,F,F] rfl rfl (by kernel_rfl) (fun _ _ _ h => h) (Or.inl ⟨by rfl, ?_⟩) ?_ ?_; rotate_left
       ·intro w'; go_simp; with_reducible rfl
       rotate_left
       ·simp only [PS]; rfl
       refine pure_ (i := 2) (N := some 39) (v := ?_) (a' := ?_) #[T,F,T,F,F,F] rfl rfl (by kernel_rfl) (fun _ _ _ h => h) (Or.inl ⟨by rfl, ?_⟩) ?_ ?_; rotate_left
       ·intro w'; go_simp; with_reducible rfl
       rotate_left
       ·simp only [PS]; rfl
       refine take_ (i := 1) (N := some 38) (v := ?_) (a' := ?_) #[T,T,T,F,F,F] rfl rfl (by kernel_rfl) (fun _ _ _ h => h) (Or.inl ⟨by rfl, ?_⟩) hHeld ?_ ?_; rotate_left
       ·rintro w' ⟨s0, s1⟩; go_simp; with_reducible rfl
       rotate_left
       ·simp only [PS]; rfl
       refine one_ (i := 3) (N := some 40) #[T,T,T,T,F,F] rfl rfl (by kernel_rfl) (by decide) (fun K hK => ?_)
       refine goes_ Tryd.func69 (by kernel_rfl) rfl #[.pointer (some ⟨g, 0, none⟩)] (by rfl) rfl rfl lm_ ?_
       with_reducible refine (spec_l04AnyPoint.calls k g s0_0 t388 t389 t400 t401 t402 t403 w0 _ ?side1 ?side2 A71.out).mono ?_
       (case side1 => exact iS)
       (case side2 => exact bI)
       rintro e w97 ⟨rfl, hi, hb, hk⟩
       refine ⟨_, rfl, ?_⟩
       replace BK365 := Aside0.mk (KeepBut.blk hk BK365.out NB365_0.out (by simp))
       replace HO368 := Aside0.mk (Kd.R_mono (Kd.R_keep (IsS92.apart (show IsS92 w0 _ g s0_0 t388 t389 from iS) (rr_ HO368.out) (by decide)) hk (fun _ h => h.2)) (fun _ h => h.1))
       replace HO371 := Aside0.mk (Kd.R_mono (Kd.R_keep (IsS92.apart (show IsS92 w0 _ g s0_0 t388 t389 from iS) (rr_ HO371.out) (by decide)) hk (fun _ h => h.2)) (fun _ h => h.1))
       replace BK374 := Aside0.mk (KeepBut.blk hk BK374.out NB374_0.out (by simp))
       replace HO380 := Aside0.mk (Kd.R_mono (Kd.R_keep (IsS92.apart (show IsS92 w0 _ g s0_0 t388 t389 from iS) (rr_ HO380.out) (by decide)) hk (fun _ h => h.2)) (fun _ h => h.1))
       replace HO386 := Aside0.mk (Kd.R_mono (Kd.R_keep (IsS92.apart (show IsS92 w0 _ g s0_0 t388 t389 from iS) (rr_ HO386.out) (by decide)) hk (fun _ h => h.2)) (fun _ h => h.1))
       replace HK := Aside0.mk (KeepBut.trans kS hk (.inl rfl))
       replace HB := Aside0.mk (hb)
       replace HI0 := Aside0.mk (hi)
       (try clear hb); (try clear hb2); (try clear hk); (try clear hi)
       have p73 : 0 ≤ (0 : Int) := (by omega)
       have q73 : (0 : Int) < ((y384.length : Int) : Int) := of_decide_eq_true as_
       have qi73 : (0 < y384.length) = True := eq_true (by omega)
       obtain ⟨go73, co73, eo73, gb73, gl73, cl73, HG73⟩ := Kd.R_form HO386.out (by omega)
       (first | cases eo73 | (injection eo73 with ea_ en_ ec_; (first | subst ea_ | (injection ea_ with ea_; subst ea_)); subst ec_; clear en_))
       have GB73 := Aside0.mk gb73
       have GG73 := Aside0.mk HG73
       clear gb73 gl73 HG73
       obtain ⟨ce73, hcl73, hM73, hcc73, hfr73⟩ := Kd.R_elem HO386.out z55 (0 : Int) p73 q73
       obtain rfl := k55_openM hM73
       have hx73_0 : World.cell? _ ⟨go73, (0 : Int).toNat * 2, none⟩ = some (.int .i64 ((rd_T55 y384 0).f0)) := hcc73 0 _ rfl
       have hx73_1 : World.cell? _ ⟨go73, (0 : Int).toNat * 2 + 1, none⟩ = some (.int .i64 ((rd_T55 y384 0).f1)) := hcc73 1 _ rfl
       have hf73_0 : World.frozen? _ ⟨go73, (0 : Int).toNat * 2, none⟩ = false := hfr73 0
       have hf73_1 : World.frozen? _ ⟨go73, (0 : Int).toNat * 2 + 1, none⟩ = false := hfr73 1
       clear hcl73 hcc73 hfr73 hM73
       (try rw [show ((0 : Int)).toNat = 0 from rfl] at hx73_0)
       (try simp only [Nat.reduceMul, Nat.zero_mul, Nat.zero_add, Nat.reduceAdd] at hx73_0)
       (try rw [show ((0 : Int)).toNat = 0 from rfl] at hf73_0)
       (try simp only [Nat.reduceMul, Nat.zero_mul, Nat.zero_add, Nat.reduceAdd] at hf73_0)
       (try rw [show ((0 : Int)).toNat = 0 from rfl] at hx73_1)
       (try simp only [Nat.reduceMul, Nat.zero_mul, Nat.zero_add, Nat.reduceAdd] at hx73_1)
       (try rw [show ((0 : Int)).toNat = 0 from rfl] at hf73_1)
       (try simp only [Nat.reduceMul, Nat.zero_mul, Nat.zero_add, Nat.reduceAdd] at hf73_1)
       replace p73 := eq_true p73
       replace q73 := eq_true q73
       have HN0_go73 := Aside0.mk (show g ≠ go73 from by have h_ := IsS92.own_ne HI0.out HO386.out (by decide); intro e_; exact h_ (by rw [e_]; rfl))
       obtain ⟨ce98, hcl98, hM98, hcc98, hfr98⟩ := Kd.R_elem HO386.out z55 (0 : Int) (by omega) (by have h_ : (0 : Int) < ((y384.length : Int) : Int) := of_decide_eq_true as_; first | exact h_ | (have e_ := (Kd.R_reads' HO386.out).1; omega) | simpa using h_)
       obtain rfl := k55_openM hM98
       have HP98 := (Kd.R_seg HO386.out (0 : Int) (by omega) (by have h_ : (0 : Int) < ((y384.length : Int) : Int) := of_decide_eq_true as_; first | exact h_ | (have e_ := (Kd.R_reads' HO386.out).1; omega) | simpa using h_) (seg := [.int .i64 t400, .int .i64 t401]) (j := 0) hcl98 hcc98 (show 2 ≤ 2 from by decide) (x' := (⟨t400, t401⟩ : S55)) (k55_mkM _ _ _ (⟨t400, t401⟩ : S55) ) (fun _ hk => hk)).1
       rw [← Ny404.out] at HP98
       have HQ98 := Aside0.mk HP98
       clear hcl98 hcc98 hfr98 hM98 HP98
       refine hK.out _ _ ⟨(blk_cell BK374.out 0).trans rfl, (blk_cell BK374.out 1).trans rfl⟩ (fun hHeld => ?_)
       clear hK K
       refine norm_ (a' := ?_) ?_ ?_; rotate_left
       ·show Act.put _ (some 40) _ = _
        simp only [PS]
        rfl
       refine pure_ (i := 4) (N := some 41) (v := ?_) (a' := ?_) #[T,T,T,T,T,F] rfl rfl (by kernel_rfl) (fun _ _ _ h => h) (Or.inl ⟨by rfl, ?_⟩) ?_ ?_; rotate_left
       ·intro w'; go_simp; with_reducible rfl
       rotate_left
       ·simp only [PS]; rfl
       refine last_ (i := 5) (N := none) #[T,T,T,T,T,T] rfl rfl (by kernel_rfl) (by decide) (fun K hK => ?_)
       refine skip_ (w1 := ?_) (by rfl) rfl ?_ ?_; rotate_left
       ·go_simp
        rfl
       refine hK.out _ _ ?_
       clear hK K
       refine done_ (by kernel_rfl) ?_
       have n0_ : Aside0 (Kd.R (Kd.int .i64) 3 ((w97.setCell ⟨go73, 0, none⟩ (.int .i64 t400)).setCell ⟨go73, 1, none⟩ (.int .i64 t401)) w.heap.size (fun k_ => some k_ ≠ (.slice Ao92 y378.length co92 : Value).ownBlock) (.slice Ao77 t366.length co77) t366) := ⟨by refine rr_ ?_; exact Kd.R_mono (Kd.R_far (p := ⟨go73, 1, none⟩) (Kd.R_far (p := ⟨go73, 0, none⟩) (Kd.R_types HO368.out GG73.out (by decide)) (fun _ hk => hk.2) (.int .i64 t400)) (fun _ hk => hk.2) (.int .i64 t401)) (fun _ hk => hk.1)⟩
       have n1_ : Aside0 (Kd.R k55 55 ((w97.setCell ⟨go73, 0, none⟩ (.int .i64 t400)).setCell ⟨go73, 1, none⟩ (.int .i64 t401)) w.heap.size (fun k_ => some k_ ≠ (.slice (some ⟨go73, 0, none⟩) y384.length co91 : Value).ownBlock) (.slice Ao81 t369.length co81) t369) := ⟨by refine rr_ ?_; exact Kd.R_mono (Kd.R_far (p := ⟨go73, 1, none⟩) (Kd.R_far (p := ⟨go73, 0, none⟩) (Kd.R_mono HO371.out (fun k_ hk => (⟨hk, fun e_ => hk.2 (by rw [e_]; rfl)⟩ : _ ∧ k_ ≠ go73))) (fun _ hk => hk.2) (.int .i64 t400)) (fun _ hk => hk.2) (.int .i64 t401)) (fun _ hk => hk.1.2)⟩
       have n2_ : Aside0 (Kd.R (Kd.int .i64) 3 ((w97.setCell ⟨go73, 0, none⟩ (.int .i64 t400)).setCell ⟨go73, 1, none⟩ (.int .i64 t401)) w.heap.size (fun k_ => some k_ ≠ (.slice Ao77 t366.length co77 : Value).ownBlock) (.slice Ao92 y378.length co92) y378) := ⟨by refine rr_ ?_; exact Kd.R_mono (Kd.R_far (p := ⟨go73, 1, none⟩) (Kd.R_far (p := ⟨go73, 0, none⟩) (Kd.R_types HO380.out GG73.out (by decide)) (fun _ hk => hk.2) (.int .i64 t400)) (fun _ hk => hk.2) (.int .i64 t401)) (fun _ hk => hk.1)⟩
       have n3_ : Aside0 (Kd.R k55 55 ((w97.setCell ⟨go73, 0, none⟩ (.int .i64 t400)).setCell ⟨go73, 1, none⟩ (.int .i64 t401)) w.heap.size (fun k_ => some k_ ≠ (.slice Ao81 t369.length co81 : Value).ownBlock) (.slice (some ⟨go73, 0, none⟩) y384.length co91) y404) := ⟨rr_ HQ98.out⟩
       have n4_ : Aside0 (((w97.setCell ⟨go73, 0, none⟩ (.int .i64 t400)).setCell ⟨go73, 1, none⟩ (.int .i64 t401)).heap[gb365]? = some (.cells #[.slice none 0 0, .slice none 0 0] 37 (0, 0))) := ⟨by refine bk_ ?_; refine blk_far ?_ (by have h_ := Kd.R_ne HO386.out BK365.out (by decide); intro e_; exact h_ (by rw [e_]; rfl)) _; refine bk_ ?_; refine blk_far ?_ (by have h_ := Kd.R_ne HO386.out BK365.out (by decide); intro e_; exact h_ (by rw [e_]; rfl)) _; exact bk_ BK365.out⟩
       have n5_ : Aside0 (((w97.setCell ⟨go73, 0, none⟩ (.int .i64 t400)).setCell ⟨go73, 1, none⟩ (.int .i64 t401)).heap[gb374]? = some (.cells #[.slice Ao92 y378.length co92, .slice (some ⟨go73, 0, none⟩) y384.length co91] 37 (0, 0))) := ⟨by refine bk_ ?_; refine blk_far ?_ (by have h_ := Kd.R_ne HO386.out BK374.out (by decide); intro e_; exact h_ (by rw [e_]; rfl)) _; refine bk_ ?_; refine blk_far ?_ (by have h_ := Kd.R_ne HO386.out BK374.out (by decide); intro e_; exact h_ (by rw [e_]; rfl)) _; exact bk_ BK374.out⟩
       have n6_ : Aside0 (IsS92 w0 ((w97.setCell ⟨go73, 0, none⟩ (.int .i64 t400)).setCell ⟨go73, 1, none⟩ (.int .i64 t401)) g s0_0 t402 t403) := ⟨iS⟩
       have n7_ : Aside0 (KeepBut w ((w97.setCell ⟨go73, 0, none⟩ (.int .i64 t400)).setCell ⟨go73, 1, none⟩ (.int .i64 t401)) g none) := ⟨kS⟩
       have n8_ : Aside0 (Below w0.heap.size w0 ((w97.setCell ⟨go73, 0, none⟩ (.int .i64 t400)).setCell ⟨go73, 1, none⟩ (.int .i64 t401))) := ⟨by repeat (first | (with_reducible first | exact HB.out | apply below_alloc | apply pw_below_drewN | apply below_drew1 | refine below_set ?_ (Nat.le_trans HL.out GB73.out) | refine below_set ?_ (Nat.le_trans HL.out GB73.out) | refine below_set ?_ (IsS92.ge HI0.out) | refine below_set ?_ GE365.out | refine below_set ?_ GE374.out) | exact HB.out)⟩
       (try clear HO368); (try clear HO371); (try clear HO380); (try clear HO386); (try clear BK365); (try clear BK374); (try clear HI0); (try clear HK); (try clear HB)
       generalize ((w97.setCell ⟨go73, 0, none⟩ (.int .i64 t400)).setCell ⟨go73, 1, none⟩ (.int .i64 t401)) = w99 at n0_ n1_ n2_ n3_ n4_ n5_ n6_ n7_ n8_ ⊢
       have HO368 := n0_
       have HO371 := n1_
       have HO380 := n2_
       have HO386 := n3_
       have BK365 := n4_
       have BK374 := n5_
       have HI0 := n6_
       have HK := n7_
       have HB := n8_
       clear n0_ n1_ n2_ n3_ n4_ n5_ n6_ n7_ n8_
       have hcz100_0 : w99.cell? ⟨gb374, 0, none⟩ = some (.slice Ao92 y378.length co92) := (blk_cell BK374.out 0).trans rfl
       have hcz100_1 : w99.cell? ⟨gb374, 1, none⟩ = some (.slice (some ⟨go73, 0, none⟩) y384.length co91) := (blk_cell BK374.out 1).trans rfl
       have hfz100_0 := blk_frozen BK374.out 0
       have hfz100_1 := blk_frozen BK374.out 1
       have hnb101 := NB365_0.out
       have hnc101 := NB0_365.out
       have hcz102_0 : w99.cell? ⟨gb365, 0, none⟩ = some (.slice none 0 0) := (blk_cell BK365.out 0).trans rfl
       have hcz102_1 : w99.cell? ⟨gb365, 1, none⟩ = some (.slice none 0 0) := (blk_cell BK365.out 1).trans rfl
       have hfz102_0 := blk_frozen BK365.out 0
       have hfz102_1 := blk_frozen BK365.out 1
       try go_wp2
       refine bodyPost_ret (results_cell_row rfl _ _ gb365 37 #[.slice Ao92 y378.length co92, .slice (some ⟨go73, 0, none⟩) y384.length co91] (0, 0) _ rfl (by refine bk_ ?_; refine blk_put (cs := #[.slice Ao92 y378.length co92, .slice none 0 0]) ?_ 1 _ rfl; refine bk_ ?_; refine blk_put (cs := #[.slice none 0 0, .slice none 0 0]) ?_ 0 _ rfl; exact bk_ BK365.out) Tryd.underlying37 rfl (by kernel_rfl)) rfl ?_
       exact ⟨_, _, by first | rfl | (simp [errW_none, errW_some] <;> rfl) | (simp [*, errW_none, errW_some] <;> rfl), by refine rr_ ?_; exact Kd.R_mono (Kd.R_far (p := ⟨gb365, 1, none⟩) (Kd.R_far (p := ⟨gb365, 0, none⟩) (Kd.R_types HO380.out BK365.out (by decide)) (fun _ hk => hk.2) (.slice Ao92 y378.length co92)) (fun _ hk => hk.2) (.slice (some ⟨go73, 0, none⟩) y384.length co91)) (fun _ hk => trivial), Kd.Q_of_R (by refine rr_ ?_; exact Kd.R_mono (Kd.R_far (p := ⟨gb365, 1, none⟩) (Kd.R_far (p := ⟨gb365, 0, none⟩) (Kd.R_types HO386.out BK365.out (by decide)) (fun _ hk => hk.2) (.slice Ao92 y378.length co92)) (fun _ hk => hk.2) (.slice (some ⟨go73, 0, none⟩) y384.length co91)) (fun _ hk => trivial)), by exact iS, by exact bI, by exact kS⟩
      ·rw [if_neg c72] at H
       exact absurd H (by simp)
     ·rw [if_neg c70] at H
      have c70b0 : (t387 == 2) = false := beq_eq_false_iff_ne.mpr c70
      have c70b1 : (t387 != 2) = true := bne_iff_ne.mpr c70
      by_cases c103 : t387 = 3
      ·rw [if_pos c103] at H
       have c103b0 : (t387 == 3) = true := beq_iff_eq.mpr c103
       have c103b1 : (t387 != 3) = false := bne_eq_false_iff_eq.mpr c103
       clear c103
       simp only [Option.some.injEq, Prod.mk.injEq] at H
       obtain ⟨rfl, rfl, rfl, rfl⟩ := H
       go_enter Tryd.func47, Tryd.ntmps47
       try go_wp2_with (first | ((with_reducible refine gate_dst (N := 2) rfl ?_); refine box_event ?hg (N := 2) ?hd (cs := #[.slice none 0 0, .slice none 0 0]) (t := 37) ?hr ?_; (case hd => rfl); (case hg => rfl); (case hr => first | (go_simp; done) | (go_simp; rfl)); intro gb365 hg w104 hbox hb; replace HB := Aside0.mk (below_step bI hb); have BK365 := Aside0.mk (hbox); have GW365 := Aside0.mk ((by rw [hg]; exact (kz w g) : w.heap.size ≤ gb365)); have GE365 := Aside0.mk ((Nat.le_trans HW0.out (by rw [hg]; exact (kz w g) : w.heap.size ≤ gb365) : w0.heap.size ≤ gb365)); replace HK := Aside0.mk (KeepBut.trans kS (KeepBut.of_below hb g none) (.inl rfl)); have NB0_365 := Aside0.mk ((by rw [hg]; exact Nat.ne_of_lt (IsS92.lt (show IsS92 w0 _ g s0_0 s0_1 s0_2 from iS)) : g ≠ gb365)); have NB365_0 := Aside0.mk ((by rw [hg]; exact Nat.ne_of_gt (IsS92.lt (show IsS92 w0 _ g s0_0 s0_1 s0_2 from iS)) : gb365 ≠ g)); replace HI0 := Aside0.mk (IsS92.below iS hb); clear hb hbox hg) | ((with_reducible refine gate_callee (f := 68) rfl ?_); refine goesL_ (some 5) rfl rfl Tryd.func68 (by kernel_rfl) rfl #[.pointer (some ⟨g, 0, none⟩)] rfl lm_ ?_; (with_reducible refine (spec_l06Path.calls k g s0_0 s0_1 s0_2 t366 t369 t372 t373 w0 _ ?side1 ?side2 A2.out).mono ?_); (case side1 => exact iS); (case side2 => exact bI); rintro e w105 ⟨v367, v370, rfl, ho0, ho1, hi, hb, hk⟩; refine ⟨_, rfl, ?_⟩; replace BK365 := Aside0.mk (KeepBut.blk hk BK365.out NB365_0.out (by simp)); have HO368 := Aside0.mk (Kd.R_lower ho0 (kz w g)); have HO371 := Aside0.mk (Kd.R_lower ho1 (kz w g)); replace HK := Aside0.mk (KeepBut.trans kS hk (.inl rfl)); replace HB := Aside0.mk (hb); replace HI0 := Aside0.mk (hi); (try clear hb hk hi ho0 ho1)) | ((with_reducible refine gate_dst (N := 3) rfl ?_); refine box_event ?hg (N := 3) ?hd (cs := #[.slice none 0 0, .slice none 0 0]) (t := 37) ?hr ?_; (case hd => rfl); (case hg => rfl); (case hr => first | (go_simp; done) | (go_simp; rfl)); intro gb374 hg w106 hbox hb; replace HO368 := Aside0.mk (Kd.R_below (rr_ HO368.out) hb); replace HO371 := Aside0.mk (Kd.R_below (rr_ HO371.out) hb); replace HB := Aside0.mk (below_step bI hb); have BK374 := Aside0.mk (hbox); have GW374 := Aside0.mk ((by rw [hg]; exact (kz w g) : w.heap.size ≤ gb374)); have GE374 := Aside0.mk ((Nat.le_trans HW0.out (by rw [hg]; exact (kz w g) : w.heap.size ≤ gb374) : w0.heap.size ≤ gb374)); replace HK := Aside0.mk (KeepBut.trans kS (KeepBut.of_below hb g none) (.inl rfl)); have NB365_374 := Aside0.mk ((by rw [hg]; exact Nat.ne_of_lt (blk_lt BK365.out) : gb365 ≠ gb374)); have NB374_365 := Aside0.mk ((by rw [hg]; exact Nat.ne_of_gt (blk_lt BK365.out) : gb374 ≠ gb365)); replace BK365 := Aside0.mk (blk_below BK365.out hb); have NB0_374 := Aside0.mk ((by rw [hg]; exact Nat.ne_of_lt (IsS92.lt (show IsS92 w0 _ g s0_0 t372 t373 from iS)) : g ≠ gb374)); have NB374_0 := Aside0.mk ((by rw [hg]; exact Nat.ne_of_gt (IsS92.lt (show IsS92 w0 _ g s0_0 t372 t373 from iS)) : gb374 ≠ g)); replace HI0 := Aside0.mk (IsS92.below iS hb); clear hb hbox hg; obtain ⟨Ao107, co107, eo107⟩ := Kd.R_slice HO368.out; subst eo107; have hnb108 := NB374_365.out; have hnc108 := NB365_374.out; have hnb109 := NB374_0.out; have hnc109 := NB0_374.out; have hcz110_0 : w106.cell? ⟨gb374, 0, none⟩ = some (.slice none 0 0) := (blk_cell BK374.out 0).trans rfl; have hcz110_1 : w106.cell? ⟨gb374, 1, none⟩ = some (.slice none 0 0) := (blk_cell BK374.out 1).trans rfl; have hfz110_0 := blk_frozen BK374.out 0; have hfz110_1 := blk_frozen BK374.out 1; obtain ⟨Ao111, co111, eo111⟩ := Kd.R_slice HO371.out; subst eo111))
       have n0_ : Aside0 (Kd.R (Kd.int .i64) 3 ((w106.setCell ⟨gb374, 0, none⟩ (.slice Ao107 t366.length co107)).setCell ⟨gb374, 1, none⟩ (.slice Ao111 t369.length co111)) w.heap.size (fun _ => True) (.slice Ao107 t366.length co107) t366) := ⟨by refine rr_ ?_; exact Kd.R_mono (Kd.R_far (p := ⟨gb374, 1, none⟩) (Kd.R_far (p := ⟨gb374, 0, none⟩) (Kd.R_types HO368.out BK374.out (by decide)) (fun _ hk => hk.2) (.slice Ao107 t366.length co107)) (fun _ hk => hk.2) (.slice Ao111 t369.length co111)) (fun _ hk => trivial)⟩
       have n1_ : Aside0 (Kd.R k55 55 ((w106.setCell ⟨gb374, 0, none⟩ (.slice Ao107 t366.length co107)).setCell ⟨gb374, 1, none⟩ (.slice Ao111 t369.length co111)) w.heap.size (fun _ => True) (.slice Ao111 t369.length co111) t369) := ⟨by refine rr_ ?_; exact Kd.R_mono (Kd.R_far (p := ⟨gb374, 1, none⟩) (Kd.R_far (p := ⟨gb374, 0, none⟩) (Kd.R_types HO371.out BK374.out (by decide)) (fun _ hk => hk.2) (.slice Ao107 t366.length co107)) (fun _ hk => hk.2) (.slice Ao111 t369.length co111)) (fun _ hk => trivial)⟩
       have n2_ : Aside0 (((w106.setCell ⟨gb374, 0, none⟩ (.slice Ao107 t366.length co107)).setCell ⟨gb374, 1, none⟩ (.slice Ao111 t369.length co111)).heap[gb365]? = some (.cells #[.slice none 0 0, .slice none 0 0] 37 (0, 0))) := ⟨bf_ BK365.out⟩
       have n3_ : Aside0 (((w106.setCell ⟨gb374, 0, none⟩ (.slice Ao107 t366.length co107)).setCell ⟨gb374, 1, none⟩ (.slice Ao111 t369.length co111)).heap[gb374]? = some (.cells #[.slice Ao107 t366.length co107, .slice Ao111 t369.length co111] 37 (0, 0))) := ⟨by refine bk_ ?_; refine blk_put (cs := #[.slice Ao107 t366.length co107, .slice none 0 0]) ?_ 1 _ rfl; refine bk_ ?_; refine blk_put (cs := #[.slice none 0 0, .slice none 0 0]) ?_ 0 _ rfl; exact bk_ BK374.out⟩
       have n4_ : Aside0 (IsS92 w0 ((w106.setCell ⟨gb374, 0, none⟩ (.slice Ao107 t366.length co107)).setCell ⟨gb374, 1, none⟩ (.slice Ao111 t369.length co111)) g s0_0 t372 t373) := ⟨iS⟩
       have n5_ : Aside0 (KeepBut w ((w106.setCell ⟨gb374, 0, none⟩ (.slice Ao107 t366.length co107)).setCell ⟨gb374, 1, none⟩ (.slice Ao111 t369.length co111)) g none) := ⟨kS⟩
       have n6_ : Aside0 (Below w0.heap.size w0 ((w106.setCell ⟨gb374, 0, none⟩ (.slice Ao107 t366.length co107)).setCell ⟨gb374, 1, none⟩ (.slice Ao111 t369.length co111))) := ⟨bI⟩
       (try clear HO368); (try clear HO371); (try clear BK365); (try clear BK374); (try clear HI0); (try clear HK); (try clear HB)
       generalize ((w106.setCell ⟨gb374, 0, none⟩ (.slice Ao107 t366.length co107)).setCell ⟨gb374, 1, none⟩ (.slice Ao111 t369.length co111)) = w112 at n0_ n1_ n2_ n3_ n4_ n5_ n6_ ⊢
       have HO368 := n0_
       have HO371 := n1_
       have BK365 := n2_
       have BK374 := n3_
       have HI0 := n4_
       have HK := n5_
       have HB := n6_
       clear n0_ n1_ n2_ n3_ n4_ n5_ n6_
       replace HO368 := Aside0.mk (Kd.R_drew HO368.out)
       replace HO371 := Aside0.mk (Kd.R_drew HO371.out)
       replace BK365 := Aside0.mk (blk_drew BK365.out)
       replace BK374 := Aside0.mk (blk_drew BK374.out)
       replace HI0 := Aside0.mk (IsS92.drew HI0.out)
       replace HK := Aside0.mk (keep_drew HK.out)
       replace HB := Aside0.mk (below_drew1 HB.out)
       refine start_ (n := 10) (S := fun w' => w'.cell? ⟨gb374, 0, none⟩ = some (.slice Ao107 t366.length co107) ∧ w'.cell? ⟨gb374, 1, none⟩ = some (.slice Ao111 t369.length co111)) (ds := [9]) #[F,F,F,F,F,F,F,F,F,F] (by kernel_rfl) rfl rfl ⟨(blk_cell BK374.out 0).trans rfl, (blk_cell BK374.out 1).trans rfl⟩ (fun hHeld => ?_); refine with_tabW spec_l06Any.tab2 spec_l06Any.bits2 (fun HT_ HW_ => ?_)
       generalize w112.drew = w113 at HO368 HO371 BK365 BK374 HI0 HK HB hHeld ⊢
       refine pure_ (i := 1) (N := some 7) (v := ?_) (a' := ?_) #[F,T,F,F,F,F,F,F,F,F] rfl rfl (any_of HT_.out (by kernel_rfl)) (fun _ _ _ h => h) (Or.inl ⟨by rfl, ?_⟩) ?_ ?_; rotate_left
       ·intro w'; go_simp; with_reducible rfl
       rotate_left
       ·simp only [PS]; rfl
       refine pure_ (i := 5) (N := some 11) (v := ?_) (a' := ?_) #[F,T,F,F,F,T,F,F,F,F] rfl rfl (any_of HT_.out (by kernel_rfl)) (fun _ _ _ h => h) (Or.inl ⟨by rfl, ?_⟩) ?_ ?_; rotate_left
       ·intro w'; go_simp; with_reducible rfl
       rotate_left
       ·simp only [PS]; rfl
       refine take_ (i := 2) (N := some 8) (v := ?_) (a' := ?_) #[F,T,T,F,F,T,F,F,F,F] rfl rfl (take_ofW HT_.out HW_.out (by kernel_rfl)) (fun _ _ _ h => h) (Or.inl ⟨by rfl, ?_⟩) hHeld ?_ ?_; rotate_left
       ·rintro w' ⟨s0, s1⟩; go_simp; with_reducible rfl
       rotate_left
       ·simp only [PS]; rfl
       refine take_ (i := 6) (N := some 12) (v := ?_) (a' := ?_) #[F,T,T,F,F,T,T,F,F,F] rfl rfl (take_ofW HT_.out HW_.out (by kernel_rfl)) (fun _ _ _ h => h) (Or.inl ⟨by rfl, ?_⟩) hHeld ?_ ?_; rotate_left
       ·rintro w' ⟨s0, s1⟩; go_simp; with_reducible rfl
       rotate_left
       ·simp only [PS]; rfl
       refine join_ (σ := Value × Value × Value) 3 #[T,T,T,T,T,T,T,F,F,F] (fun s_ => [(6, s_.1), (9, s_.2.1), (10, s_.2.2)]) (fun s_ w' => (w'.cell? ⟨gb374, 0, none⟩ = some (.slice Ao107 t366.length co107) ∧ w'.cell? ⟨gb374, 1, none⟩ = some (.slice Ao111 t369.length co111)) ∧ (Kd.R (Kd.int .i64) 3 w' w.heap.size (fun k_ => some k_ ≠ (s_.2.1 : Value).ownBlock) (.slice Ao107 t366.length co107) t366) ∧ (Kd.R k55 55 w' w.heap.size (fun k_ => some k_ ≠ (s_.2.2 : Value).ownBlock) (.slice Ao111 t369.length co111) t369) ∧ (Kd.R (Kd.int .i64) 3 w' w.heap.size (fun k_ => some k_ ≠ (.slice Ao107 t366.length co107 : Value).ownBlock) s_.2.1 y378) ∧ (Kd.R k55 55 w' w.heap.size (fun k_ => some k_ ≠ (.slice Ao111 t369.length co111 : Value).ownBlock) s_.2.2 y381) ∧ (w'.heap[gb365]? = some (.cells #[.slice none 0 0, .slice none 0 0] 37 (0, 0))) ∧ (w'.heap[gb374]? = some (.cells #[.slice Ao107 t366.length co107, .slice Ao111 t369.length co111] 37 (0, 0))) ∧ (IsS92 w0 w' g s0_0 t372 t373) ∧ (KeepBut w w' g none) ∧ (Below w0.heap.size w0 w')) ?_ ?_
       rotate_left
       ·intro hCont
        refine two_ (i := 0) (j := 4) (Ni := some 6) (Nj := some 10) #[T,T,T,F,F,T,T,F,F,F] #[F,T,T,F,T,T,T,F,F,F] rfl rfl rfl rfl (two_of HT_.out (by kernel_rfl)) (by decide) (by decide) (fun K hK => ?_) (fun K hK => ?_)
        ·skip
         refine Kd.R_lit_step (Kd.int .i64) _ 3 ?hg (N := 6) ?hd (xs := ([] : List Int)) (inner := []) (ok := fun _ => True) (okp := fun _ => True) ?hr ?hp (fun _ hk => hk) trivial (Below.refl _ _) (Nat.le_refl _) (by simp) ?_; (case hd => rfl); (case hg => rfl); (case hr => first | (go_simp; done) | (go_simp; rfl)); (case hp => exact (Reps.none _ _))
         intro v376 w114 ho115 hb hg_ hnew_
         clear hg_ hnew_
         (first | rw [← Ny375.out] at ho115 | (simp only [Int.reduceToNat] at ho115; rw [← Ny375.out] at ho115))
         replace HO371 := Aside0.mk (Kd.R_below (rr_ HO371.out) hb)
         have HO377 := Aside0.mk (Kd.R_lower (Kd.R_new' ho115 (Kd.R_lt (rr_ HO368.out))) (kz w g))
         replace HO368 := Aside0.mk (Kd.R_elder' (rr_ HO368.out) (Kd.R_base ho115) hb)
         replace BK365 := Aside0.mk (blk_below BK365.out hb)
         replace BK374 := Aside0.mk (blk_below BK374.out hb)
         replace HK := Aside0.mk (KeepBut.trans kS (KeepBut.of_below hb g none) (.inl rfl))
         replace HB := Aside0.mk (below_step bI hb)
         replace HI0 := Aside0.mk (IsS92.below iS hb)
         clear hb ho115
         refine hK.out _ _ ⟨(blk_cell BK374.out 0).trans rfl, (blk_cell BK374.out 1).trans rfl⟩ (fun hHeld => ?_)
         clear hK K
         refine norm_ (a' := ?_) ?_ ?_; rotate_left
         ·show Act.put _ (some 6) _ = _
          simp only [PS]
          rfl
         refine two_ (i := 3) (j := 4) (Ni := some 9) (Nj := some 10) #[T,T,T,T,F,T,T,F,F,F] #[T,T,T,F,T,T,T,F,F,F] rfl rfl rfl rfl (two_of HT_.out (by kernel_rfl)) (by decide) (by decide) (fun K hK => ?_) (fun K hK => ?_)
         ·skip
          refine Kd.R_append_rows_step (Kd.int .i64) w.heap.size (by rfl) (.tmp 6) (.tmp 8) 28 3 (.int .i64 0) 8 rfl Tryd.underlying28 info3 rfl (by decide) (by omega) v376 y375 t366 _ _ _ (fun k_ => some k_ ≠ (.slice Ao107 t366.length co107 : Value).ownBlock) (fun _ => False) rfl rfl ?aO ?aR (fun _ _ h => h) (fun _ h => h.elim) ?aF (Below.refl _ _) ?aS ?aL ?_
          (case aR => exact cc_ (Kd.R_reads' HO368.out).2.2)
          (case aF => exact (fun k_ hk => Kd.fresh' (Kd.R_lt (rr_ HO368.out)) k_ hk))
          (case aO => exact (by refine rr_ ?_; exact Kd.R_mono HO377.out (fun _ hk => hk.2)))
          (case aS => exact (kz w g))
          (case aL => have := LMc3.out; omega)
          intro v379 w116 ho hb hg hat
          rw [← Ny378.out] at ho
          have n0_ := Aside0.mk (IsS92.grown iS hg (IsS92.own_ne HI0.out HO377.out (by decide)))
          have n1_ := Aside0.mk (blk_grown BK365.out hg (Kd.R_ne HO377.out BK365.out (by decide)))
          have n2_ := Aside0.mk (Kd.R_after (ok := (fun _ => True)) (rr_ HO368.out) hg hat)
          have n3_ := Aside0.mk (Kd.R_over' (rr_ HO371.out) (Kd.R_typed (rr_ HO377.out)) (by decide) hg)
          have n4_ := Aside0.mk (blk_grown BK374.out hg (Kd.R_ne HO377.out BK374.out (by decide)))
          have n5_ := Aside0.mk (below_weaken bI HL.out hb)
          have n6_ := Aside0.mk (KeepBut.trans kS (KeepBut.of_grown hg g) (Kd.R_base2 HO377.out))
          have n7_ := Aside0.mk (ho)
          clear HI0 BK365 HO368 HO371 BK374 HB HK HO377
          have HI0 := n0_
          have BK365 := n1_
          have HO368 := n2_
          have HO371 := n3_
          have BK374 := n4_
          have HB := n5_
          have HK := n6_
          have HO380 := n7_
          clear n0_ n1_ n2_ n3_ n4_ n5_ n6_ n7_ ho hb hg hat
          refine hK.out _ _ ⟨(blk_cell BK374.out 0).trans rfl, (blk_cell BK374.out 1).trans rfl⟩ (fun hHeld => ?_)
          clear hK K
          refine norm_ (a' := ?_) ?_ ?_; rotate_left
          ·show Act.put _ (some 9) _ = _
           simp only [PS]
           rfl
          refine one_ (i := 4) (N := some 10) #[T,T,T,T,T,T,T,F,F,F] rfl rfl (one_of HT_.out (by kernel_rfl)) (by decide) (fun K hK => ?_)
          refine Kd.R_lit_step k55 _ 55 ?hg (N := 10) ?hd (xs := ([] : List (S55))) (inner := []) (ok := fun _ => True) (okp := fun _ => True) ?hr ?hp (fun _ hk => hk) trivial (Below.refl _ _) (Nat.le_refl _) (by simp) ?_; (case hd => rfl); (case hg => rfl); (case hr => first | (go_simp; done) | (go_simp; rfl)); (case hp => exact (Reps.none _ _))
          intro v382 w117 ho118 hb hg_ hnew_
          clear hg_ hnew_
          (first | rw [← Ny381.out] at ho118 | (simp only [Int.reduceToNat] at ho118; rw [← Ny381.out] at ho118))
          replace HO368 := Aside0.mk (Kd.R_below (rr_ HO368.out) hb)
          replace HO380 := Aside0.mk (Kd.R_below (rr_ HO380.out) hb)
          have HO383 := Aside0.mk (Kd.R_lower (Kd.R_new' ho118 (Kd.R_lt (rr_ HO371.out))) (kz w g))
          replace HO371 := Aside0.mk (Kd.R_elder' (rr_ HO371.out) (Kd.R_base ho118) hb)
          replace BK365 := Aside0.mk (blk_below BK365.out hb)
          replace BK374 := Aside0.mk (blk_below BK374.out hb)
          replace HK := Aside0.mk (KeepBut.trans kS (KeepBut.of_below hb g none) (.inl rfl))
          replace HB := Aside0.mk (below_step bI hb)
          replace HI0 := Aside0.mk (IsS92.below iS hb)
          clear hb ho118
          refine hK.out _ _ ⟨(blk_cell BK374.out 0).trans rfl, (blk_cell BK374.out 1).trans rfl⟩ (fun hHeld => ?_)
          clear hK K
          refine norm_ (a' := ?_) ?_ ?_; rotate_left
          ·show Act.put _ (some 10) _ = _
           simp only [PS]
           rfl
          exact norm_ (by simp only [putAll, Act.put, List.setIfInBounds_toArray, List.set_cons_zero, List.set_cons_succ]) (hCont (v376, v379, v382) _ ⟨hHeld, (by refine rr_ ?_; exact Kd.R_mono HO368.out (fun _ hk => hk.2)), (by refine rr_ ?_; exact Kd.R_mono HO371.out (fun _ hk => hk.2)), (rr_ HO380.out), (by refine rr_ ?_; exact Kd.R_mono HO383.out (fun _ hk => hk.2)), (by exact BK365.out), (by exact BK374.out), iS, kS, bI⟩)
         ·skip
          refine Kd.R_lit_step k55 _ 55 ?hg (N := 10) ?hd (xs := ([] : List (S55))) (inner := []) (ok := fun _ => True) (okp := fun _ => True) ?hr ?hp (fun _ hk => hk) trivial (Below.refl _ _) (Nat.le_refl _) (by simp) ?_; (case hd => rfl); (case hg => rfl); (case hr => first | (go_simp; done) | (go_simp; rfl)); (case hp => exact (Reps.none _ _))
          intro v382 w116 ho117 hb hg_ hnew_
          clear hg_ hnew_
          (first | rw [← Ny381.out] at ho117 | (simp only [Int.reduceToNat] at ho117; rw [← Ny381.out] at ho117))
          replace HO368 := Aside0.mk (Kd.R_below (rr_ HO368.out) hb)
          replace HO377 := Aside0.mk (Kd.R_below (rr_ HO377.out) hb)
          have HO383 := Aside0.mk (Kd.R_lower (Kd.R_new' ho117 (Kd.R_lt (rr_ HO371.out))) (kz w g))
          replace HO371 := Aside0.mk (Kd.R_elder' (rr_ HO371.out) (Kd.R_base ho117) hb)
          replace BK365 := Aside0.mk (blk_below BK365.out hb)
          replace BK374 := Aside0.mk (blk_below BK374.out hb)
          replace HK := Aside0.mk (KeepBut.trans kS (KeepBut.of_below hb g none) (.inl rfl))
          replace HB := Aside0.mk (below_step bI hb)
          replace HI0 := Aside0.mk (IsS92.below iS hb)
          clear hb ho117
          refine hK.out _ _ ⟨(blk_cell BK374.out 0).trans rfl, (blk_cell BK374.out 1).trans rfl⟩ (fun hHeld => ?_)
          clear hK K
          refine norm_ (a' := ?_) ?_ ?_; rotate_left
          ·show Act.put _ (some 10) _ = _
           simp only [PS]
           rfl
          refine one_ (i := 3) (N := some 9) #[T,T,T,T,T,T,T,F,F,F] rfl rfl (one_of HT_.out (by kernel_rfl)) (by decide) (fun K hK => ?_)
          refine Kd.R_append_rows_step (Kd.int .i64) w.heap.size (by rfl) (.tmp 6) (.tmp 8) 28 3 (.int .i64 0) 8 rfl Tryd.underlying28 info3 rfl (by decide) (by omega) v376 y375 t366 _ _ _ (fun k_ => some k_ ≠ (.slice Ao107 t366.length co107 : Value).ownBlock) (fun _ => False) rfl rfl ?aO ?aR (fun _ _ h => h) (fun _ h => h.elim) ?aF (Below.refl _ _) ?aS ?aL ?_
          (case aR => exact cc_ (Kd.R_reads' HO368.out).2.2)
          (case aF => exact (fun k_ hk => Kd.fresh' (Kd.R_lt (rr_ HO368.out)) k_ hk))
          (case aO => exact (by refine rr_ ?_; exact Kd.R_mono HO377.out (fun _ hk => hk.2)))
          (case aS => exact (kz w g))
          (case aL => have := LMc3.out; omega)
          intro v379 w118 ho hb hg hat
          rw [← Ny378.out] at ho
          have n0_ := Aside0.mk (IsS92.grown iS hg (IsS92.own_ne HI0.out HO377.out (by decide)))
          have n1_ := Aside0.mk (blk_grown BK365.out hg (Kd.R_ne HO377.out BK365.out (by decide)))
          have n2_ := Aside0.mk (Kd.R_after (ok := (fun _ => True)) (rr_ HO368.out) hg hat)
          have n3_ := Aside0.mk (Kd.R_over' (rr_ HO371.out) (Kd.R_typed (rr_ HO377.out)) (by decide) hg)
          have n4_ := Aside0.mk (blk_grown BK374.out hg (Kd.R_ne HO377.out BK374.out (by decide)))
          have n5_ := Aside0.mk (Kd.R_over' (rr_ HO383.out) (Kd.R_typed (rr_ HO377.out)) (by decide) hg)
          have n6_ := Aside0.mk (below_weaken bI HL.out hb)
          have n7_ := Aside0.mk (KeepBut.trans kS (KeepBut.of_grown hg g) (Kd.R_base2 HO377.out))
          have n8_ := Aside0.mk (ho)
          clear HI0 BK365 HO368 HO371 BK374 HO383 HB HK HO377
          have HI0 := n0_
          have BK365 := n1_
          have HO368 := n2_
          have HO371 := n3_
          have BK374 := n4_
          have HO383 := n5_
          have HB := n6_
          have HK := n7_
          have HO380 := n8_
          clear n0_ n1_ n2_ n3_ n4_ n5_ n6_ n7_ n8_ ho hb hg hat
          refine hK.out _ _ ⟨(blk_cell BK374.out 0).trans rfl, (blk_cell BK374.out 1).trans rfl⟩ (fun hHeld => ?_)
          clear hK K
          refine norm_ (a' := ?_) ?_ ?_; rotate_left
          ·show Act.put _ (some 9) _ = _
           simp only [PS]
           rfl
          exact norm_ (by simp only [putAll, Act.put, List.setIfInBounds_toArray, List.set_cons_zero, List.set_cons_succ]) (hCont (v376, v379, v382) _ ⟨hHeld, (by refine rr_ ?_; exact Kd.R_mono HO368.out (fun _ hk => hk.2)), (by refine rr_ ?_; exact Kd.R_mono HO371.out (fun _ hk => hk.2)), (rr_ HO380.out), (by refine rr_ ?_; exact Kd.R_mono HO383.out (fun _ hk => hk.2)), (by exact BK365.out), (by exact BK374.out), iS, kS, bI⟩)
        ·skip
         refine Kd.R_lit_step k55 _ 55 ?hg (N := 10) ?hd (xs := ([] : List (S55))) (inner := []) (ok := fun _ => True) (okp := fun _ => True) ?hr ?hp (fun _ hk => hk) trivial (Below.refl _ _) (Nat.le_refl _) (by simp) ?_; (case hd => rfl); (case hg => rfl); (case hr => first | (go_simp; done) | (go_simp; rfl)); (case hp => exact (Reps.none _ _))
         intro v382 w114 ho115 hb hg_ hnew_
         clear hg_ hnew_
         (first | rw [← Ny381.out] at ho115 | (simp only [Int.reduceToNat] at ho115; rw [← Ny381.out] at ho115))
         replace HO368 := Aside0.mk (Kd.R_below (rr_ HO368.out) hb)
         have HO383 := Aside0.mk (Kd.R_lower (Kd.R_new' ho115 (Kd.R_lt (rr_ HO371.out))) (kz w g))
         replace HO371 := Aside0.mk (Kd.R_elder' (rr_ HO371.out) (Kd.R_base ho115) hb)
         replace BK365 := Aside0.mk (blk_below BK365.out hb)
         replace BK374 := Aside0.mk (blk_below BK374.out hb)
         replace HK := Aside0.mk (KeepBut.trans kS (KeepBut.of_below hb g none) (.inl rfl))
         replace HB := Aside0.mk (below_step bI hb)
         replace HI0 := Aside0.mk (IsS92.below iS hb)
         clear hb ho115
         refine hK.out _ _ ⟨(blk_cell BK374.out 0).trans rfl, (blk_cell BK374.out 1).trans rfl⟩ (fun hHeld => ?_)
         clear hK K
         refine norm_ (a' := ?_) ?_ ?_; rotate_left
         ·show Act.put _ (some 10) _ = _
          simp only [PS]
          rfl
         refine one_ (i := 0) (N := some 6) #[T,T,T,F,T,T,T,F,F,F] rfl rfl (one_of HT_.out (by kernel_rfl)) (by decide) (fun K hK => ?_)
         refine Kd.R_lit_step (Kd.int .i64) _ 3 ?hg (N := 6) ?hd (xs := ([] : List Int)) (inner := []) (ok := fun _ => True) (okp := fun _ => True) ?hr ?hp (fun _ hk => hk) trivial (Below.refl _ _) (Nat.le_refl _) (by simp) ?_; (case hd => rfl); (case hg => rfl); (case hr => first | (go_simp; done) | (go_simp; rfl)); (case hp => exact (Reps.none _ _))
         intro v376 w116 ho117 hb hg_ hnew_
         clear hg_ hnew_
         (first | rw [← Ny375.out] at ho117 | (simp only [Int.reduceToNat] at ho117; rw [← Ny375.out] at ho117))
         replace HO371 := Aside0.mk (Kd.R_below (rr_ HO371.out) hb)
         replace HO383 := Aside0.mk (Kd.R_below (rr_ HO383.out) hb)
         have HO377 := Aside0.mk (Kd.R_lower (Kd.R_new' ho117 (Kd.R_lt (rr_ HO368.out))) (kz w g))
         replace HO368 := Aside0.mk (Kd.R_elder' (rr_ HO368.out) (Kd.R_base ho117) hb)
         replace BK365 := Aside0.mk (blk_below BK365.out hb)
         replace BK374 := Aside0.mk (blk_below BK374.out hb)
         replace HK := Aside0.mk (KeepBut.trans kS (KeepBut.of_below hb g none) (.inl rfl))
         replace HB := Aside0.mk (below_step bI hb)
         replace HI0 := Aside0.mk (IsS92.below iS hb)
         clear hb ho117
         refine hK.out _ _ ⟨(blk_cell BK374.out 0).trans rfl, (blk_cell BK374.out 1).trans rfl⟩ (fun hHeld => ?_)
         clear hK K
         refine norm_ (a' := ?_) ?_ ?_; rotate_left
         ·show Act.put _ (some 6) _ = _
          simp only [PS]
          rfl
         refine one_ (i := 3) (N := some 9) #[T,T,T,T,T,T,T,F,F,F] rfl rfl (one_of HT_.out (by kernel_rfl)) (by decide) (fun K hK => ?_)
         refine Kd.R_append_rows_step (Kd.int .i64) w.heap.size (by rfl) (.tmp 6) (.tmp 8) 28 3 (.int .i64 0) 8 rfl Tryd.underlying28 info3 rfl (by decide) (by omega) v376 y375 t366 _ _ _ (fun k_ => some k_ ≠ (.slice Ao107 t366.length co107 : Value).ownBlock) (fun _ => False) rfl rfl ?aO ?aR (fun _ _ h => h) (fun _ h => h.elim) ?aF (Below.refl _ _) ?aS ?aL ?_
         (case aR => exact cc_ (Kd.R_reads' HO368.out).2.2)
         (case aF => exact (fun k_ hk => Kd.fresh' (Kd.R_lt (rr_ HO368.out)) k_ hk))
         (case aO => exact (by refine rr_ ?_; exact Kd.R_mono HO377.out (fun _ hk => hk.2)))
         (case aS => exact (kz w g))
         (case aL => have := LMc3.out; omega)
         intro v379 w118 ho hb hg hat
         rw [← Ny378.out] at ho
         have n0_ := Aside0.mk (IsS92.grown iS hg (IsS92.own_ne HI0.out HO377.out (by decide)))
         have n1_ := Aside0.mk (blk_grown BK365.out hg (Kd.R_ne HO377.out BK365.out (by decide)))
         have n2_ := Aside0.mk (Kd.R_after (ok := (fun _ => True)) (rr_ HO368.out) hg hat)
         have n3_ := Aside0.mk (Kd.R_over' (rr_ HO371.out) (Kd.R_typed (rr_ HO377.out)) (by decide) hg)
         have n4_ := Aside0.mk (blk_grown BK374.out hg (Kd.R_ne HO377.out BK374.out (by decide)))
         have n5_ := Aside0.mk (Kd.R_over' (rr_ HO383.out) (Kd.R_typed (rr_ HO377.out)) (by decide) hg)
         have n6_ := Aside0.mk (below_weaken bI HL.out hb)
         have n7_ := Aside0.mk (KeepBut.trans kS (KeepBut.of_grown hg g) (Kd.R_base2 HO377.out))
         have n8_ := Aside0.mk (ho)
         clear HI0 BK365 HO368 HO371 BK374 HO383 HB HK HO377
         have HI0 := n0_
         have BK365 := n1_
         have HO368 := n2_
         have HO371 := n3_
         have BK374 := n4_
         have HO383 := n5_
         have HB := n6_
         have HK := n7_
         have HO380 := n8_
         clear n0_ n1_ n2_ n3_ n4_ n5_ n6_ n7_ n8_ ho hb hg hat
         refine hK.out _ _ ⟨(blk_cell BK374.out 0).trans rfl, (blk_cell BK374.out 1).trans rfl⟩ (fun hHeld => ?_)
         clear hK K
         refine norm_ (a' := ?_) ?_ ?_; rotate_left
         ·show Act.put _ (some 9) _ = _
          simp only [PS]
          rfl
         exact norm_ (by simp only [putAll, Act.put, List.setIfInBounds_toArray, List.set_cons_zero, List.set_cons_succ]) (hCont (v376, v379, v382) _ ⟨hHeld, (by refine rr_ ?_; exact Kd.R_mono HO368.out (fun _ hk => hk.2)), (by refine rr_ ?_; exact Kd.R_mono HO371.out (fun _ hk => hk.2)), (rr_ HO380.out), (by refine rr_ ?_; exact Kd.R_mono HO383.out (fun _ hk => hk.2)), (by exact BK365.out), (by exact BK374.out), iS, kS, bI⟩)
       rintro ⟨v376, v379, v382⟩ w119 ⟨hS_, h0_, h1_, h2_, h3_, h4_, h5_, h6_, h7_, h8_⟩
       have n0_ : Aside0 (Kd.R (Kd.int .i64) 3 w119 w.heap.size (fun k_ => some k_ ≠ (v379 : Value).ownBlock) (.slice Ao107 t366.length co107) t366) := ⟨h0_⟩
       have n1_ : Aside0 (Kd.R k55 55 w119 w.heap.size (fun k_ => some k_ ≠ (v382 : Value).ownBlock) (.slice Ao111 t369.length co111) t369) := ⟨h1_⟩
       have n2_ : Aside0 (Kd.R (Kd.int .i64) 3 w119 w.heap.size (fun k_ => some k_ ≠ (.slice Ao107 t366.length co107 : Value).ownBlock) v379 y378) := ⟨h2_⟩
       have n3_ : Aside0 (Kd.R k55 55 w119 w.heap.size (fun k_ => some k_ ≠ (.slice Ao111 t369.length co111 : Value).ownBlock) v382 y381) := ⟨h3_⟩
       have n4_ : Aside0 (w119.heap[gb365]? = some (.cells #[.slice none 0 0, .slice none 0 0] 37 (0, 0))) := ⟨h4_⟩
       have n5_ : Aside0 (w119.heap[gb374]? = some (.cells #[.slice Ao107 t366.length co107, .slice Ao111 t369.length co111] 37 (0, 0))) := ⟨h5_⟩
       have n6_ : Aside0 (IsS92 w0 w119 g s0_0 t372 t373) := ⟨h6_⟩
       have n7_ : Aside0 (KeepBut w w119 g none) := ⟨h7_⟩
       have n8_ : Aside0 (Below w0.heap.size w0 w119) := ⟨h8_⟩
       clear HO368 HO371 BK365 BK374 HI0 HK HB h0_ h1_ h2_ h3_ h4_ h5_ h6_ h7_ h8_
       have HO368 := n0_
       have HO371 := n1_
       have HO380 := n2_
       have HO383 := n3_
       have BK365 := n4_
       have BK374 := n5_
       have HI0 := n6_
       have HK := n7_
       have HB := n8_
       clear n0_ n1_ n2_ n3_ n4_ n5_ n6_ n7_ n8_
       have hHeld : w119.cell? ⟨gb374, 0, none⟩ = some (.slice Ao107 t366.length co107) ∧ w119.cell? ⟨gb374, 1, none⟩ = some (.slice Ao111 t369.length co111) := hS_
       refine norm_ (a' := ?_) ?_ ?_; rotate_left
       ·simp only [putAll, Act.put, List.setIfInBounds_toArray, List.set_cons_zero, List.set_cons_succ]
        rfl
       refine one_ (i := 7) (N := some 13) #[T,T,T,T,T,T,T,T,F,F] rfl rfl (one_of HT_.out (by kernel_rfl)) (by decide) (fun K hK => ?_)
       refine Kd.R_append_rows_step k55 w.heap.size (by rfl) (.tmp 10) (.tmp 12) 35 55 (.agg #[(.int .i64 0), (.int .i64 0)]) 16 rfl Tryd.underlying35 info55 rfl (by decide) (by omega) v382 y381 t369 _ _ _ (fun k_ => some k_ ≠ (.slice Ao111 t369.length co111 : Value).ownBlock) (fun _ => False) rfl rfl ?aO ?aR (fun _ _ h => h) (fun _ h => h.elim) ?aF (Below.refl _ _) ?aS ?aL ?_
       (case aR => exact cc_ (Kd.R_reads' HO371.out).2.2)
       (case aF => exact (fun k_ hk => Kd.fresh' (Kd.R_lt (rr_ HO371.out)) k_ hk))
       (case aO => exact (rr_ HO383.out))
       (case aS => exact (kz w g))
       (case aL => have := LMc4.out; omega)
       intro v385 w120 ho hb hg hat
       rw [← Ny384.out] at ho
       have n0_ := Aside0.mk (IsS92.grown iS hg (IsS92.own_ne HI0.out HO383.out (by decide)))
       have n1_ := Aside0.mk (blk_grown BK365.out hg (Kd.R_ne HO383.out BK365.out (by decide)))
       have n2_ := Aside0.mk (Kd.R_over' (rr_ HO368.out) (Kd.R_typed (rr_ HO383.out)) (by decide) hg)
       have n3_ := Aside0.mk (Kd.R_after (ok := (fun _ => True)) (by refine rr_ ?_; exact Kd.R_mono HO371.out (fun _ hk => ⟨trivial, hk⟩)) hg hat)
       have n4_ := Aside0.mk (blk_grown BK374.out hg (Kd.R_ne HO383.out BK374.out (by decide)))
       have n5_ := Aside0.mk (Kd.R_over' (rr_ HO380.out) (Kd.R_typed (rr_ HO383.out)) (by decide) hg)
       have n6_ := Aside0.mk (below_weaken bI HL.out hb)
       have n7_ := Aside0.mk (KeepBut.trans kS (KeepBut.of_grown hg g) (Kd.R_base2 HO383.out))
       have n8_ := Aside0.mk (ho)
       clear HI0 BK365 HO368 HO371 BK374 HO380 HB HK HO383
       have HI0 := n0_
       have BK365 := n1_
       have HO368 := n2_
       have HO371 := n3_
       have BK374 := n4_
       have HO380 := n5_
       have HB := n6_
       have HK := n7_
       have HO386 := n8_
       clear n0_ n1_ n2_ n3_ n4_ n5_ n6_ n7_ n8_ ho hb hg hat
       obtain ⟨Ao121, co121, eo121⟩ := Kd.R_slice HO386.out
       (first | subst eo121 | (injection eo121 with f1_ f2_ f3_; have f4_ := f1_.symm; have f5_ := f3_.symm; clear f1_ f2_ f3_; subst f4_; subst f5_))
       obtain ⟨Ao122, co122, eo122⟩ := Kd.R_slice HO380.out
       (first | subst eo122 | (injection eo122 with f1_ f2_ f3_; have f4_ := f1_.symm; have f5_ := f3_.symm; clear f1_ f2_ f3_; subst f4_; subst f5_))
       refine hK.out _ _ ⟨(blk_cell BK374.out 0).trans rfl, (blk_cell BK374.out 1).trans rfl⟩ (fun hHeld => ?_)
       clear hK K
       refine norm_ (a' := ?_) ?_ ?_; rotate_left
       ·show Act.put _ (some 13) _ = _
        simp only [PS]
        rfl
       refine pure_ (i := 8) (N := some 14) (v := ?_) (a' := ?_) #[T,T,T,T,T,T,T,T,T,F] rfl rfl (any_of HT_.out (by kernel_rfl)) (fun _ _ _ h => h) (Or.inl ⟨by rfl, ?_⟩) ?_ ?_; rotate_left
       ·intro w'; go_simp; with_reducible rfl
       rotate_left
       ·simp only [PS]; rfl
       refine last_ (i := 9) (N := none) #[T,T,T,T,T,T,T,T,T,T] rfl rfl (one_of HT_.out (by kernel_rfl)) (by decide) (fun K hK => ?_)
       have hs123 : w120.cell? ⟨gb374, 0, none⟩ = some (.slice Ao107 t366.length co107) := (blk_cell BK374.out 0).trans rfl
       have hfs123 := blk_frozen BK374.out 0
       have hns123_0 := NB365_374.out
       have hms123_0 := NB374_365.out
       have hs124 : w120.cell? ⟨gb374, 1, none⟩ = some (.slice Ao111 t369.length co111) := (blk_cell BK374.out 1).trans rfl
       have hfs124 := blk_frozen BK374.out 1
       have hns124_0 := NB365_374.out
       have hms124_0 := NB374_365.out
       refine skip_ (w1 := ?_) (by rfl) rfl ?_ ?_; rotate_left
       ·go_simp
        rfl
       refine hK.out _ _ ?_
       clear hK K
       refine done_ (done_of HT_.out (by kernel_rfl)) ?_
       try go_wp2_with (first | ((with_reducible refine gate_callee (f := 53) rfl ?_); refine goesL_ (some 16) rfl rfl Tryd.func53 (by kernel_rfl) rfl #[.pointer (some ⟨g, 0, none⟩), .int .i64 16] rfl lm_ ?_; (with_reducible refine (spec_l01Below.calls g s0_0 t372 t373 16 t387 t388 t389 w0 _ ?side1 ?side2 A5.out).mono ?_); (case side1 => exact iS); (case side2 => exact bI); rintro e w125 ⟨rfl, hi, hb, hk⟩; refine ⟨_, rfl, ?_⟩; replace BK365 := Aside0.mk (KeepBut.blk hk (bf_ BK365.out) NB365_0.out (by simp)); replace HO368 := Aside0.mk (Kd.R_mono (Kd.R_keep (IsS92.apart (show IsS92 w0 _ g s0_0 t372 t373 from iS) (by refine rr_ ?_; exact (Kd.R_mono (Kd.R_far (p := ⟨gb374, 1, none⟩) (Kd.R_far (p := ⟨gb374, 0, none⟩) (Kd.R_types HO368.out BK374.out (by decide)) (fun _ hk => hk.2) (.slice Ao122 y378.length co122)) (fun _ hk => hk.2) (.slice Ao121 y384.length co121)) (fun _ h_ => h_.1))) (by decide)) hk (fun _ h => h.2)) (fun _ h => h.1)); replace HO371 := Aside0.mk (Kd.R_mono (Kd.R_keep (IsS92.apart (show IsS92 w0 _ g s0_0 t372 t373 from iS) (by refine rr_ ?_; exact (Kd.R_mono (Kd.R_far (p := ⟨gb374, 1, none⟩) (Kd.R_far (p := ⟨gb374, 0, none⟩) (Kd.R_types HO371.out BK374.out (by decide)) (fun _ hk => hk.2) (.slice Ao122 y378.length co122)) (fun _ hk => hk.2) (.slice Ao121 y384.length co121)) (fun _ h_ => h_.1))) (by decide)) hk (fun _ h => h.2)) (fun _ h => h.1)); replace HO380 := Aside0.mk (Kd.R_mono (Kd.R_keep (IsS92.apart (show IsS92 w0 _ g s0_0 t372 t373 from iS) (by refine rr_ ?_; exact (Kd.R_mono (Kd.R_far (p := ⟨gb374, 1, none⟩) (Kd.R_far (p := ⟨gb374, 0, none⟩) (Kd.R_types HO380.out BK374.out (by decide)) (fun _ hk => hk.2) (.slice Ao122 y378.length co122)) (fun _ hk => hk.2) (.slice Ao121 y384.length co121)) (fun _ h_ => h_.1))) (by decide)) hk (fun _ h => h.2)) (fun _ h => h.1)); replace HO386 := Aside0.mk (Kd.R_mono (Kd.R_keep (IsS92.apart (show IsS92 w0 _ g s0_0 t372 t373 from iS) (by refine rr_ ?_; exact (Kd.R_mono (Kd.R_far (p := ⟨gb374, 1, none⟩) (Kd.R_far (p := ⟨gb374, 0, none⟩) (Kd.R_types HO386.out BK374.out (by decide)) (fun _ hk => hk.2) (.slice Ao122 y378.length co122)) (fun _ hk => hk.2) (.slice Ao121 y384.length co121)) (fun _ h_ => h_.1))) (by decide)) hk (fun _ h => h.2)) (fun _ h => h.1)); replace BK374 := Aside0.mk (KeepBut.blk hk (g' := gb374) (o := .cells #[.slice Ao122 y378.length co122, .slice Ao121 y384.length co121] 37 (0, 0)) (by refine bk_ ?_; refine blk_put (cs := #[.slice Ao122 y378.length co122, .slice Ao111 t369.length co111]) ?_ 1 _ rfl; refine bk_ ?_; refine blk_put (cs := #[.slice Ao107 t366.length co107, .slice Ao111 t369.length co111]) ?_ 0 _ rfl; exact bk_ BK374.out) NB374_0.out (by simp)); replace HK := Aside0.mk (KeepBut.trans kS hk (.inl rfl)); replace HB := Aside0.mk (hb); replace HI0 := Aside0.mk (hi); (try clear hb hk hi); have hcz126_0 : w125.cell? ⟨gb374, 0, none⟩ = some (.slice Ao122 y378.length co122) := (blk_cell BK374.out 0).trans rfl; have hcz126_1 : w125.cell? ⟨gb374, 1, none⟩ = some (.slice Ao121 y384.length co121) := (blk_cell BK374.out 1).trans rfl; have hfz126_0 := blk_frozen BK374.out 0; have hfz126_1 := blk_frozen BK374.out 1; have hnb127 := NB365_0.out; have hnc127 := NB0_365.out; have hcz128_0 : w125.cell? ⟨gb365, 0, none⟩ = some (.slice none 0 0) := (blk_cell BK365.out 0).trans rfl; have hcz128_1 : w125.cell? ⟨gb365, 1, none⟩ = some (.slice none 0 0) := (blk_cell BK365.out 1).trans rfl; have hfz128_0 := blk_frozen BK365.out 0; have hfz128_1 := blk_frozen BK365.out 1))
       refine bodyPost_ret (results_cell_row rfl _ _ gb365 37 #[.slice none 0 0, .slice none 0 0] (0, 0) _ rfl (by refine bk_ ?_; refine blk_put (cs := #[.slice none 0 0, .slice none 0 0]) ?_ 1 _ rfl; refine bk_ ?_; refine blk_put (cs := #[.slice none 0 0, .slice none 0 0]) ?_ 0 _ rfl; refine bk_ ?_; refine blk_far ?_ NB365_374.out _; refine bk_ ?_; refine blk_far ?_ NB365_374.out _; exact bk_ BK365.out) Tryd.underlying37 rfl (by kernel_rfl)) rfl ?_
       exact ⟨_, _, by first | rfl | (simp [errW_none, errW_some] <;> rfl) | (simp [*, errW_none, errW_some] <;> rfl), by first | exact Kd.R_nil _ _ _ _ _ | exact Kd.N_nil _ _ _ _ _ | exact Kd.V_nil _ _ _ _ _ | exact Kd.Q_nil _ _ _ _ _ | exact Kd.S_nil _ _ _ _ _, Kd.Q_of_R (by first | exact Kd.R_nil _ _ _ _ _ | exact Kd.N_nil _ _ _ _ _ | exact Kd.V_nil _ _ _ _ _ | exact Kd.Q_nil _ _ _ _ _ | exact Kd.S_nil _ _ _ _ _), by exact iS, by exact bI, by exact kS⟩
      ·rw [if_neg c103] at H
       have c103b0 : (t387 == 3) = false := beq_eq_false_iff_ne.mpr c103
       have c103b1 : (t387 != 3) = true := bne_iff_ne.mpr c103
       simp only [Option.some.injEq, Prod.mk.injEq] at H
       obtain ⟨rfl, rfl, rfl, rfl⟩ := H
       go_enter Tryd.func47, Tryd.ntmps47
       try go_wp2_with (first | ((with_reducible refine gate_dst (N := 2) rfl ?_); refine box_event ?hg (N := 2) ?hd (cs := #[.slice none 0 0, .slice none 0 0]) (t := 37) ?hr ?_; (case hd => rfl); (case hg => rfl); (case hr => first | (go_simp; done) | (go_simp; rfl)); intro gb365 hg w129 hbox hb; replace HB := Aside0.mk (below_step bI hb); have BK365 := Aside0.mk (hbox); have GW365 := Aside0.mk ((by rw [hg]; exact (kz w g) : w.heap.size ≤ gb365)); have GE365 := Aside0.mk ((Nat.le_trans HW0.out (by rw [hg]; exact (kz w g) : w.heap.size ≤ gb365) : w0.heap.size ≤ gb365)); replace HK := Aside0.mk (KeepBut.trans kS (KeepBut.of_below hb g none) (.inl rfl)); have NB0_365 := Aside0.mk ((by rw [hg]; exact Nat.ne_of_lt (IsS92.lt (show IsS92 w0 _ g s0_0 s0_1 s0_2 from iS)) : g ≠ gb365)); have NB365_0 := Aside0.mk ((by rw [hg]; exact Nat.ne_of_gt (IsS92.lt (show IsS92 w0 _ g s0_0 s0_1 s0_2 from iS)) : gb365 ≠ g)); replace HI0 := Aside0.mk (IsS92.below iS hb); clear hb hbox hg) | ((with_reducible refine gate_callee (f := 68) rfl ?_); refine goesL_ (some 5) rfl rfl Tryd.func68 (by kernel_rfl) rfl #[.pointer (some ⟨g, 0, none⟩)] rfl lm_ ?_; (with_reducible refine (spec_l06Path.calls k g s0_0 s0_1 s0_2 t366 t369 t372 t373 w0 _ ?side1 ?side2 A2.out).mono ?_); (case side1 => exact iS); (case side2 => exact bI); rintro e w130 ⟨v367, v370, rfl, ho0, ho1, hi, hb, hk⟩; refine ⟨_, rfl, ?_⟩; replace BK365 := Aside0.mk (KeepBut.blk hk BK365.out NB365_0.out (by simp)); have HO368 := Aside0.mk (Kd.R_lower ho0 (kz w g)); have HO371 := Aside0.mk (Kd.R_lower ho1 (kz w g)); replace HK := Aside0.mk (KeepBut.trans kS hk (.inl rfl)); replace HB := Aside0.mk (hb); replace HI0 := Aside0.mk (hi); (try clear hb hk hi ho0 ho1)) | ((with_reducible refine gate_dst (N := 3) rfl ?_); refine box_event ?hg (N := 3) ?hd (cs := #[.slice none 0 0, .slice none 0 0]) (t := 37) ?hr ?_; (case hd => rfl); (case hg => rfl); (case hr => first | (go_simp; done) | (go_simp; rfl)); intro gb374 hg w131 hbox hb; replace HO368 := Aside0.mk (Kd.R_below (rr_ HO368.out) hb); replace HO371 := Aside0.mk (Kd.R_below (rr_ HO371.out) hb); replace HB := Aside0.mk (below_step bI hb); have BK374 := Aside0.mk (hbox); have GW374 := Aside0.mk ((by rw [hg]; exact (kz w g) : w.heap.size ≤ gb374)); have GE374 := Aside0.mk ((Nat.le_trans HW0.out (by rw [hg]; exact (kz w g) : w.heap.size ≤ gb374) : w0.heap.size ≤ gb374)); replace HK := Aside0.mk (KeepBut.trans kS (KeepBut.of_below hb g none) (.inl rfl)); have NB365_374 := Aside0.mk ((by rw [hg]; exact Nat.ne_of_lt (blk_lt BK365.out) : gb365 ≠ gb374)); have NB374_365 := Aside0.mk ((by rw [hg]; exact Nat.ne_of_gt (blk_lt BK365.out) : gb374 ≠ gb365)); replace BK365 := Aside0.mk (blk_below BK365.out hb); have NB0_374 := Aside0.mk ((by rw [hg]; exact Nat.ne_of_lt (IsS92.lt (show IsS92 w0 _ g s0_0 t372 t373 from iS)) : g ≠ gb374)); have NB374_0 := Aside0.mk ((by rw [hg]; exact Nat.ne_of_gt (IsS92.lt (show IsS92 w0 _ g s0_0 t372 t373 from iS)) : gb374 ≠ g)); replace HI0 := Aside0.mk (IsS92.below iS hb); clear hb hbox hg; obtain ⟨Ao132, co132, eo132⟩ := Kd.R_slice HO368.out; subst eo132; have hnb133 := NB374_365.out; have hnc133 := NB365_374.out; have hnb134 := NB374_0.out; have hnc134 := NB0_374.out; have hcz135_0 : w131.cell? ⟨gb374, 0, none⟩ = some (.slice none 0 0) := (blk_cell BK374.out 0).trans rfl; have hcz135_1 : w131.cell? ⟨gb374, 1, none⟩ = some (.slice none 0 0) := (blk_cell BK374.out 1).trans rfl; have hfz135_0 := blk_frozen BK374.out 0; have hfz135_1 := blk_frozen BK374.out 1; obtain ⟨Ao136, co136, eo136⟩ := Kd.R_slice HO371.out; subst eo136))
       have n0_ : Aside0 (Kd.R (Kd.int .i64) 3 ((w131.setCell ⟨gb374, 0, none⟩ (.slice Ao132 t366.length co132)).setCell ⟨gb374, 1, none⟩ (.slice Ao136 t369.length co136)) w.heap.size (fun _ => True) (.slice Ao132 t366.length co132) t366) := ⟨by refine rr_ ?_; exact Kd.R_mono (Kd.R_far (p := ⟨gb374, 1, none⟩) (Kd.R_far (p := ⟨gb374, 0, none⟩) (Kd.R_types HO368.out BK374.out (by decide)) (fun _ hk => hk.2) (.slice Ao132 t366.length co132)) (fun _ hk => hk.2) (.slice Ao136 t369.length co136)) (fun _ hk => trivial)⟩
       have n1_ : Aside0 (Kd.R k55 55 ((w131.setCell ⟨gb374, 0, none⟩ (.slice Ao132 t366.length co132)).setCell ⟨gb374, 1, none⟩ (.slice Ao136 t369.length co136)) w.heap.size (fun _ => True) (.slice Ao136 t369.length co136) t369) := ⟨by refine rr_ ?_; exact Kd.R_mono (Kd.R_far (p := ⟨gb374, 1, none⟩) (Kd.R_far (p := ⟨gb374, 0, none⟩) (Kd.R_types HO371.out BK374.out (by decide)) (fun _ hk => hk.2) (.slice Ao132 t366.length co132)) (fun _ hk => hk.2) (.slice Ao136 t369.length co136)) (fun _ hk => trivial)⟩
       have n2_ : Aside0 (((w131.setCell ⟨gb374, 0, none⟩ (.slice Ao132 t366.length co132)).setCell ⟨gb374, 1, none⟩ (.slice Ao136 t369.length co136)).heap[gb365]? = some (.cells #[.slice none 0 0, .slice none 0 0] 37 (0, 0))) := ⟨bf_ BK365.out⟩
       have n3_ : Aside0 (((w131.setCell ⟨gb374, 0, none⟩ (.slice Ao132 t366.length co132)).setCell ⟨gb374, 1, none⟩ (.slice Ao136 t369.length co136)).heap[gb374]? = some (.cells #[.slice Ao132 t366.length co132, .slice Ao136 t369.length co136] 37 (0, 0))) := ⟨by refine bk_ ?_; refine blk_put (cs := #[.slice Ao132 t366.length co132, .slice none 0 0]) ?_ 1 _ rfl; refine bk_ ?_; refine blk_put (cs := #[.slice none 0 0, .slice none 0 0]) ?_ 0 _ rfl; exact bk_ BK374.out⟩
       have n4_ : Aside0 (IsS92 w0 ((w131.setCell ⟨gb374, 0, none⟩ (.slice Ao132 t366.length co132)).setCell ⟨gb374, 1, none⟩ (.slice Ao136 t369.length co136)) g s0_0 t372 t373) := ⟨iS⟩
       have n5_ : Aside0 (KeepBut w ((w131.setCell ⟨gb374, 0, none⟩ (.slice Ao132 t366.length co132)).setCell ⟨gb374, 1, none⟩ (.slice Ao136 t369.length co136)) g none) := ⟨kS⟩
       have n6_ : Aside0 (Below w0.heap.size w0 ((w131.setCell ⟨gb374, 0, none⟩ (.slice Ao132 t366.length co132)).setCell ⟨gb374, 1, none⟩ (.slice Ao136 t369.length co136))) := ⟨bI⟩
       (try clear HO368); (try clear HO371); (try clear BK365); (try clear BK374); (try clear HI0); (try clear HK); (try clear HB)
       generalize ((w131.setCell ⟨gb374, 0, none⟩ (.slice Ao132 t366.length co132)).setCell ⟨gb374, 1, none⟩ (.slice Ao136 t369.length co136)) = w137 at n0_ n1_ n2_ n3_ n4_ n5_ n6_ ⊢
       have HO368 := n0_
       have HO371 := n1_
       have BK365 := n2_
       have BK374 := n3_
       have HI0 := n4_
       have HK := n5_
       have HB := n6_
       clear n0_ n1_ n2_ n3_ n4_ n5_ n6_
       replace HO368 := Aside0.mk (Kd.R_drew HO368.out)
       replace HO371 := Aside0.mk (Kd.R_drew HO371.out)
       replace BK365 := Aside0.mk (blk_drew BK365.out)
       replace BK374 := Aside0.mk (blk_drew BK374.out)
       replace HI0 := Aside0.mk (IsS92.drew HI0.out)
       replace HK := Aside0.mk (keep_drew HK.out)
       replace HB := Aside0.mk (below_drew1 HB.out)
       refine start_ (n := 10) (S := fun w' => w'.cell? ⟨gb374, 0, none⟩ = some (.slice Ao132 t366.length co132) ∧ w'.cell? ⟨gb374, 1, none⟩ = some (.slice Ao136 t369.length co136)) (ds := [9]) #[F,F,F,F,F,F,F,F,F,F] (by kernel_rfl) rfl rfl ⟨(blk_cell BK374.out 0).trans rfl, (blk_cell BK374.out 1).trans rfl⟩ (fun hHeld => ?_); refine with_tabW spec_l06Any.tab2 spec_l06Any.bits2 (fun HT_ HW_ => ?_)
       generalize w137.drew = w138 at HO368 HO371 BK365 BK374 HI0 HK HB hHeld ⊢
       refine pure_ (i := 1) (N := some 7) (v := ?_) (a' := ?_) #[F,T,F,F,F,F,F,F,F,F] rfl rfl (any_of HT_.out (by kernel_rfl)) (fun _ _ _ h => h) (Or.inl ⟨by rfl, ?_⟩) ?_ ?_; rotate_left
       ·intro w'; go_simp; with_reducible rfl
       rotate_left
       ·simp only [PS]; rfl
       refine pure_ (i := 5) (N := some 11) (v := ?_) (a' := ?_) #[F,T,F,F,F,T,F,F,F,F] rfl rfl (any_of HT_.out (by kernel_rfl)) (fun _ _ _ h => h) (Or.inl ⟨by rfl, ?_⟩) ?_ ?_; rotate_left
       ·intro w'; go_simp; with_reducible rfl
       rotate_left
       ·simp only [PS]; rfl
       refine take_ (i := 2) (N := some 8) (v := ?_) (a' := ?_) #[F,T,T,F,F,T,F,F,F,F] rfl rfl (take_ofW HT_.out HW_.out (by kernel_rfl)) (fun _ _ _ h => h) (Or.inl ⟨by rfl, ?_⟩) hHeld ?_ ?_; rotate_left
       ·rintro w' ⟨s0, s1⟩; go_simp; with_reducible rfl
       rotate_left
       ·simp only [PS]; rfl
       refine take_ (i := 6) (N := some 12) (v := ?_) (a' := ?_) #[F,T,T,F,F,T,T,F,F,F] rfl rfl (take_ofW HT_.out HW_.out (by kernel_rfl)) (fun _ _ _ h => h) (Or.inl ⟨by rfl, ?_⟩) hHeld ?_ ?_; rotate_left
       ·rintro w' ⟨s0, s1⟩; go_simp; with_reducible rfl
       rotate_left
       ·simp only [PS]; rfl
       refine join_ (σ := Value × Value × Value) 3 #[T,T,T,T,T,T,T,F,F,F] (fun s_ => [(6, s_.1), (9, s_.2.1), (10, s_.2.2)]) (fun s_ w' => (w'.cell? ⟨gb374, 0, none⟩ = some (.slice Ao132 t366.length co132) ∧ w'.cell? ⟨gb374, 1, none⟩ = some (.slice Ao136 t369.length co136)) ∧ (Kd.R (Kd.int .i64) 3 w' w.heap.size (fun k_ => some k_ ≠ (s_.2.1 : Value).ownBlock) (.slice Ao132 t366.length co132) t366) ∧ (Kd.R k55 55 w' w.heap.size (fun k_ => some k_ ≠ (s_.2.2 : Value).ownBlock) (.slice Ao136 t369.length co136) t369) ∧ (Kd.R (Kd.int .i64) 3 w' w.heap.size (fun k_ => some k_ ≠ (.slice Ao132 t366.length co132 : Value).ownBlock) s_.2.1 y378) ∧ (Kd.R k55 55 w' w.heap.size (fun k_ => some k_ ≠ (.slice Ao136 t369.length co136 : Value).ownBlock) s_.2.2 y381) ∧ (w'.heap[gb365]? = some (.cells #[.slice none 0 0, .slice none 0 0] 37 (0, 0))) ∧ (w'.heap[gb374]? = some (.cells #[.slice Ao132 t366.length co132, .slice Ao136 t369.length co136] 37 (0, 0))) ∧ (IsS92 w0 w' g s0_0 t372 t373) ∧ (KeepBut w w' g none) ∧ (Below w0.heap.size w0 w')) ?_ ?_
       rotate_left
       ·intro hCont
        refine two_ (i := 0) (j := 4) (Ni := some 6) (Nj := some 10) #[T,T,T,F,F,T,T,F,F,F] #[F,T,T,F,T,T,T,F,F,F] rfl rfl rfl rfl (two_of HT_.out (by kernel_rfl)) (by decide) (by decide) (fun K hK => ?_) (fun K hK => ?_)
        ·skip
         refine Kd.R_lit_step (Kd.int .i64) _ 3 ?hg (N := 6) ?hd (xs := ([] : List Int)) (inner := []) (ok := fun _ => True) (okp := fun _ => True) ?hr ?hp (fun _ hk => hk) trivial (Below.refl _ _) (Nat.le_refl _) (by simp) ?_; (case hd => rfl); (case hg => rfl); (case hr => first | (go_simp; done) | (go_simp; rfl)); (case hp => exact (Reps.none _ _))
         intro v376 w139 ho140 hb hg_ hnew_
         clear hg_ hnew_
         (first | rw [← Ny375.out] at ho140 | (simp only [Int.reduceToNat] at ho140; rw [← Ny375.out] at ho140))
         replace HO371 := Aside0.mk (Kd.R_below (rr_ HO371.out) hb)
         have HO377 := Aside0.mk (Kd.R_lower (Kd.R_new' ho140 (Kd.R_lt (rr_ HO368.out))) (kz w g))
         replace HO368 := Aside0.mk (Kd.R_elder' (rr_ HO368.out) (Kd.R_base ho140) hb)
         replace BK365 := Aside0.mk (blk_below BK365.out hb)
         replace BK374 := Aside0.mk (blk_below BK374.out hb)
         replace HK := Aside0.mk (KeepBut.trans kS (KeepBut.of_below hb g none) (.inl rfl))
         replace HB := Aside0.mk (below_step bI hb)
         replace HI0 := Aside0.mk (IsS92.below iS hb)
         clear hb ho140
         refine hK.out _ _ ⟨(blk_cell BK374.out 0).trans rfl, (blk_cell BK374.out 1).trans rfl⟩ (fun hHeld => ?_)
         clear hK K
         refine norm_ (a' := ?_) ?_ ?_; rotate_left
         ·show Act.put _ (some 6) _ = _
          simp only [PS]
          rfl
         refine two_ (i := 3) (j := 4) (Ni := some 9) (Nj := some 10) #[T,T,T,T,F,T,T,F,F,F] #[T,T,T,F,T,T,T,F,F,F] rfl rfl rfl rfl (two_of HT_.out (by kernel_rfl)) (by decide) (by decide) (fun K hK => ?_) (fun K hK => ?_)
         ·skip
          refine Kd.R_append_rows_step (Kd.int .i64) w.heap.size (by rfl) (.tmp 6) (.tmp 8) 28 3 (.int .i64 0) 8 rfl Tryd.underlying28 info3 rfl (by decide) (by omega) v376 y375 t366 _ _ _ (fun k_ => some k_ ≠ (.slice Ao132 t366.length co132 : Value).ownBlock) (fun _ => False) rfl rfl ?aO ?aR (fun _ _ h => h) (fun _ h => h.elim) ?aF (Below.refl _ _) ?aS ?aL ?_
          (case aR => exact cc_ (Kd.R_reads' HO368.out).2.2)
          (case aF => exact (fun k_ hk => Kd.fresh' (Kd.R_lt (rr_ HO368.out)) k_ hk))
          (case aO => exact (by refine rr_ ?_; exact Kd.R_mono HO377.out (fun _ hk => hk.2)))
          (case aS => exact (kz w g))
          (case aL => have := LMc3.out; omega)
          intro v379 w141 ho hb hg hat
          rw [← Ny378.out] at ho
          have n0_ := Aside0.mk (IsS92.grown iS hg (IsS92.own_ne HI0.out HO377.out (by decide)))
          have n1_ := Aside0.mk (blk_grown BK365.out hg (Kd.R_ne HO377.out BK365.out (by decide)))
          have n2_ := Aside0.mk (Kd.R_after (ok := (fun _ => True)) (rr_ HO368.out) hg hat)
          have n3_ := Aside0.mk (Kd.R_over' (rr_ HO371.out) (Kd.R_typed (rr_ HO377.out)) (by decide) hg)
          have n4_ := Aside0.mk (blk_grown BK374.out hg (Kd.R_ne HO377.out BK374.out (by decide)))
          have n5_ := Aside0.mk (below_weaken bI HL.out hb)
          have n6_ := Aside0.mk (KeepBut.trans kS (KeepBut.of_grown hg g) (Kd.R_base2 HO377.out))
          have n7_ := Aside0.mk (ho)
          clear HI0 BK365 HO368 HO371 BK374 HB HK HO377
          have HI0 := n0_
          have BK365 := n1_
          have HO368 := n2_
          have HO371 := n3_
          have BK374 := n4_
          have HB := n5_
          have HK := n6_
          have HO380 := n7_
          clear n0_ n1_ n2_ n3_ n4_ n5_ n6_ n7_ ho hb hg hat
          refine hK.out _ _ ⟨(blk_cell BK374.out 0).trans rfl, (blk_cell BK374.out 1).trans rfl⟩ (fun hHeld => ?_)
          clear hK K
          refine norm_ (a' := ?_) ?_ ?_; rotate_left
          ·show Act.put _ (some 9) _ = _
           simp only [PS]
           rfl
          refine one_ (i := 4) (N := some 10) #[T,T,T,T,T,T,T,F,F,F] rfl rfl (one_of HT_.out (by kernel_rfl)) (by decide) (fun K hK => ?_)
          refine Kd.R_lit_step k55 _ 55 ?hg (N := 10) ?hd (xs := ([] : List (S55))) (inner := []) (ok := fun _ => True) (okp := fun _ => True) ?hr ?hp (fun _ hk => hk) trivial (Below.refl _ _) (Nat.le_refl _) (by simp) ?_; (case hd => rfl); (case hg => rfl); (case hr => first | (go_simp; done) | (go_simp; rfl)); (case hp => exact (Reps.none _ _))
          intro v382 w142 ho143 hb hg_ hnew_
          clear hg_ hnew_
          (first | rw [← Ny381.out] at ho143 | (simp only [Int.reduceToNat] at ho143; rw [← Ny381.out] at ho143))
          replace HO368 := Aside0.mk (Kd.R_below (rr_ HO368.out) hb)
          replace HO380 := Aside0.mk (Kd.R_below (rr_ HO380.out) hb)
          have HO383 := Aside0.mk (Kd.R_lower (Kd.R_new' ho143 (Kd.R_lt (rr_ HO371.out))) (kz w g))
          replace HO371 := Aside0.mk (Kd.R_elder' (rr_ HO371.out) (Kd.R_base ho143) hb)
          replace BK365 := Aside0.mk (blk_below BK365.out hb)
          replace BK374 := Aside0.mk (blk_below BK374.out hb)
          replace HK := Aside0.mk (KeepBut.trans kS (KeepBut.of_below hb g none) (.inl rfl))
          replace HB := Aside0.mk (below_step bI hb)
          replace HI0 := Aside0.mk (IsS92.below iS hb)
          clear hb ho143
          refine hK.out _ _ ⟨(blk_cell BK374.out 0).trans rfl, (blk_cell BK374.out 1).trans rfl⟩ (fun hHeld => ?_)
          clear hK K
          refine norm_ (a' := ?_) ?_ ?_; rotate_left
          ·show Act.put _ (some 10) _ = _
           simp only [PS]
           rfl
          exact norm_ (by simp only [putAll, Act.put, List.setIfInBounds_toArray, List.set_cons_zero, List.set_cons_succ]) (hCont (v376, v379, v382) _ ⟨hHeld, (by refine rr_ ?_; exact Kd.R_mono HO368.out (fun _ hk => hk.2)), (by refine rr_ ?_; exact Kd.R_mono HO371.out (fun _ hk => hk.2)), (rr_ HO380.out), (by refine rr_ ?_; exact Kd.R_mono HO383.out (fun _ hk => hk.2)), (by exact BK365.out), (by exact BK374.out), iS, kS, bI⟩)
         ·skip
          refine Kd.R_lit_step k55 _ 55 ?hg (N := 10) ?hd (xs := ([] : List (S55))) (inner := []) (ok := fun _ => True) (okp := fun _ => True) ?hr ?hp (fun _ hk => hk) trivial (Below.refl _ _) (Nat.le_refl _) (by simp) ?_; (case hd => rfl); (case hg => rfl); (case hr => first | (go_simp; done) | (go_simp; rfl)); (case hp => exact (Reps.none _ _))
          intro v382 w141 ho142 hb hg_ hnew_
          clear hg_ hnew_
          (first | rw [← Ny381.out] at ho142 | (simp only [Int.reduceToNat] at ho142; rw [← Ny381.out] at ho142))
          replace HO368 := Aside0.mk (Kd.R_below (rr_ HO368.out) hb)
          replace HO377 := Aside0.mk (Kd.R_below (rr_ HO377.out) hb)
          have HO383 := Aside0.mk (Kd.R_lower (Kd.R_new' ho142 (Kd.R_lt (rr_ HO371.out))) (kz w g))
          replace HO371 := Aside0.mk (Kd.R_elder' (rr_ HO371.out) (Kd.R_base ho142) hb)
          replace BK365 := Aside0.mk (blk_below BK365.out hb)
          replace BK374 := Aside0.mk (blk_below BK374.out hb)
          replace HK := Aside0.mk (KeepBut.trans kS (KeepBut.of_below hb g none) (.inl rfl))
          replace HB := Aside0.mk (below_step bI hb)
          replace HI0 := Aside0.mk (IsS92.below iS hb)
          clear hb ho142
          refine hK.out _ _ ⟨(blk_cell BK374.out 0).trans rfl, (blk_cell BK374.out 1).trans rfl⟩ (fun hHeld => ?_)
          clear hK K
          refine norm_ (a' := ?_) ?_ ?_; rotate_left
          ·show Act.put _ (some 10) _ = _
           simp only [PS]
           rfl
          refine one_ (i := 3) (N := some 9) #[T,T,T,T,T,T,T,F,F,F] rfl rfl (one_of HT_.out (by kernel_rfl)) (by decide) (fun K hK => ?_)
          refine Kd.R_append_rows_step (Kd.int .i64) w.heap.size (by rfl) (.tmp 6) (.tmp 8) 28 3 (.int .i64 0) 8 rfl Tryd.underlying28 info3 rfl (by decide) (by omega) v376 y375 t366 _ _ _ (fun k_ => some k_ ≠ (.slice Ao132 t366.length co132 : Value).ownBlock) (fun _ => False) rfl rfl ?aO ?aR (fun _ _ h => h) (fun _ h => h.elim) ?aF (Below.refl _ _) ?aS ?aL ?_
          (case aR => exact cc_ (Kd.R_reads' HO368.out).2.2)
          (case aF => exact (fun k_ hk => Kd.fresh' (Kd.R_lt (rr_ HO368.out)) k_ hk))
          (case aO => exact (by refine rr_ ?_; exact Kd.R_mono HO377.out (fun _ hk => hk.2)))
          (case aS => exact (kz w g))
          (case aL => have := LMc3.out; omega)
          intro v379 w143 ho hb hg hat
          rw [← Ny378.out] at ho
          have n0_ := Aside0.mk (IsS92.grown iS hg (IsS92.own_ne HI0.out HO377.out (by decide)))
          have n1_ := Aside0.mk (blk_grown BK365.out hg (Kd.R_ne HO377.out BK365.out (by decide)))
          have n2_ := Aside0.mk (Kd.R_after (ok := (fun _ => True)) (rr_ HO368.out) hg hat)
          have n3_ := Aside0.mk (Kd.R_over' (rr_ HO371.out) (Kd.R_typed (rr_ HO377.out)) (by decide) hg)
          have n4_ := Aside0.mk (blk_grown BK374.out hg (Kd.R_ne HO377.out BK374.out (by decide)))
          have n5_ := Aside0.mk (Kd.R_over' (rr_ HO383.out) (Kd.R_typed (rr_ HO377.out)) (by decide) hg)
          have n6_ := Aside0.mk (below_weaken bI HL.out hb)
          have n7_ := Aside0.mk (KeepBut.trans kS (KeepBut.of_grown hg g) (Kd.R_base2 HO377.out))
          have n8_ := Aside0.mk (ho)
          clear HI0 BK365 HO368 HO371 BK374 HO383 HB HK HO377
          have HI0 := n0_
          have BK365 := n1_
          have HO368 := n2_
          have HO371 := n3_
          have BK374 := n4_
          have HO383 := n5_
          have HB := n6_
          have HK := n7_
          have HO380 := n8_
          clear n0_ n1_ n2_ n3_ n4_ n5_ n6_ n7_ n8_ ho hb hg hat
          refine hK.out _ _ ⟨(blk_cell BK374.out 0).trans rfl, (blk_cell BK374.out 1).trans rfl⟩ (fun hHeld => ?_)
          clear hK K
          refine norm_ (a' := ?_) ?_ ?_; rotate_left
          ·show Act.put _ (some 9) _ = _
           simp only [PS]
           rfl
          exact norm_ (by simp only [putAll, Act.put, List.setIfInBounds_toArray, List.set_cons_zero, List.set_cons_succ]) (hCont (v376, v379, v382) _ ⟨hHeld, (by refine rr_ ?_; exact Kd.R_mono HO368.out (fun _ hk => hk.2)), (by refine rr_ ?_; exact Kd.R_mono HO371.out (fun _ hk => hk.2)), (rr_ HO380.out), (by refine rr_ ?_; exact Kd.R_mono HO383.out (fun _ hk => hk.2)), (by exact BK365.out), (by exact BK374.out), iS, kS, bI⟩)
        ·skip
         refine Kd.R_lit_step k55 _ 55 ?hg (N := 10) ?hd (xs := ([] : List (S55))) (inner := []) (ok := fun _ => True) (okp := fun _ => True) ?hr ?hp (fun _ hk => hk) trivial (Below.refl _ _) (Nat.le_refl _) (by simp) ?_; (case hd => rfl); (case hg => rfl); (case hr => first | (go_simp; done) | (go_simp; rfl)); (case hp => exact (Reps.none _ _))
         intro v382 w139 ho140 hb hg_ hnew_
         clear hg_ hnew_
         (first | rw [← Ny381.out] at ho140 | (simp only [Int.reduceToNat] at ho140; rw [← Ny381.out] at ho140))
         replace HO368 := Aside0.mk (Kd.R_below (rr_ HO368.out) hb)
         have HO383 := Aside0.mk (Kd.R_lower (Kd.R_new' ho140 (Kd.R_lt (rr_ HO371.out))) (kz w g))
         replace HO371 := Aside0.mk (Kd.R_elder' (rr_ HO371.out) (Kd.R_base ho140) hb)
         replace BK365 := Aside0.mk (blk_below BK365.out hb)
         replace BK374 := Aside0.mk (blk_below BK374.out hb)
         replace HK := Aside0.mk (KeepBut.trans kS (KeepBut.of_below hb g none) (.inl rfl))
         replace HB := Aside0.mk (below_step bI hb)
         replace HI0 := Aside0.mk (IsS92.below iS hb)
         clear hb ho140
         refine hK.out _ _ ⟨(blk_cell BK374.out 0).trans rfl, (blk_cell BK374.out 1).trans rfl⟩ (fun hHeld => ?_)
         clear hK K
         refine norm_ (a' := ?_) ?_ ?_; rotate_left
         ·show Act.put _ (some 10) _ = _
          simp only [PS]
          rfl
         refine one_ (i := 0) (N := some 6) #[T,T,T,F,T,T,T,F,F,F] rfl rfl (one_of HT_.out (by kernel_rfl)) (by decide) (fun K hK => ?_)
         refine Kd.R_lit_step (Kd.int .i64) _ 3 ?hg (N := 6) ?hd (xs := ([] : List Int)) (inner := []) (ok := fun _ => True) (okp := fun _ => True) ?hr ?hp (fun _ hk => hk) trivial (Below.refl _ _) (Nat.le_refl _) (by simp) ?_; (case hd => rfl); (case hg => rfl); (case hr => first | (go_simp; done) | (go_simp; rfl)); (case hp => exact (Reps.none _ _))
         intro v376 w141 ho142 hb hg_ hnew_
         clear hg_ hnew_
         (first | rw [← Ny375.out] at ho142 | (simp only [Int.reduceToNat] at ho142; rw [← Ny375.out] at ho142))
         replace HO371 := Aside0.mk (Kd.R_below (rr_ HO371.out) hb)
         replace HO383 := Aside0.mk (Kd.R_below (rr_ HO383.out) hb)
         have HO377 := Aside0.mk (Kd.R_lower (Kd.R_new' ho142 (Kd.R_lt (rr_ HO368.out))) (kz w g))
         replace HO368 := Aside0.mk (Kd.R_elder' (rr_ HO368.out) (Kd.R_base ho142) hb)
         replace BK365 := Aside0.mk (blk_below BK365.out hb)
         replace BK374 := Aside0.mk (blk_below BK374.out hb)
         replace HK := Aside0.mk (KeepBut.trans kS (KeepBut.of_below hb g none) (.inl rfl))
         replace HB := Aside0.mk (below_step bI hb)
         replace HI0 := Aside0.mk (IsS92.below iS hb)
         clear hb ho142
         refine hK.out _ _ ⟨(blk_cell BK374.out 0).trans rfl, (blk_cell BK374.out 1).trans rfl⟩ (fun hHeld => ?_)
         clear hK K
         refine norm_ (a' := ?_) ?_ ?_; rotate_left
         ·show Act.put _ (some 6) _ = _
          simp only [PS]
          rfl
         refine one_ (i := 3) (N := some 9) #[T,T,T,T,T,T,T,F,F,F] rfl rfl (one_of HT_.out (by kernel_rfl)) (by decide) (fun K hK => ?_)
         refine Kd.R_append_rows_step (Kd.int .i64) w.heap.size (by rfl) (.tmp 6) (.tmp 8) 28 3 (.int .i64 0) 8 rfl Tryd.underlying28 info3 rfl (by decide) (by omega) v376 y375 t366 _ _ _ (fun k_ => some k_ ≠ (.slice Ao132 t366.length co132 : Value).ownBlock) (fun _ => False) rfl rfl ?aO ?aR (fun _ _ h => h) (fun _ h => h.elim) ?aF (Below.refl _ _) ?aS ?aL ?_
         (case aR => exact cc_ (Kd.R_reads' HO368.out).2.2)
         (case aF => exact (fun k_ hk => Kd.fresh' (Kd.R_lt (rr_ HO368.out)) k_ hk))
         (case aO => exact (by refine rr_ ?_; exact Kd.R_mono HO377.out (fun _ hk => hk.2)))
         (case aS => exact (kz w g))
         (case aL => have := LMc3.out; omega)
         intro v379 w143 ho hb hg hat
         rw [← Ny378.out] at ho
         have n0_ := Aside0.mk (IsS92.grown iS hg (IsS92.own_ne HI0.out HO377.out (by decide)))
         have n1_ := Aside0.mk (blk_grown BK365.out hg (Kd.R_ne HO377.out BK365.out (by decide)))
         have n2_ := Aside0.mk (Kd.R_after (ok := (fun _ => True)) (rr_ HO368.out) hg hat)
         have n3_ := Aside0.mk (Kd.R_over' (rr_ HO371.out) (Kd.R_typed (rr_ HO377.out)) (by decide) hg)
         have n4_ := Aside0.mk (blk_grown BK374.out hg (Kd.R_ne HO377.out BK374.out (by decide)))
         have n5_ := Aside0.mk (Kd.R_over' (rr_ HO383.out) (Kd.R_typed (rr_ HO377.out)) (by decide) hg)
         have n6_ := Aside0.mk (below_weaken bI HL.out hb)
         have n7_ := Aside0.mk (KeepBut.trans kS (KeepBut.of_grown hg g) (Kd.R_base2 HO377.out))
         have n8_ := Aside0.mk (ho)
         clear HI0 BK365 HO368 HO371 BK374 HO383 HB HK HO377
         have HI0 := n0_
         have BK365 := n1_
         have HO368 := n2_
         have HO371 := n3_
         have BK374 := n4_
         have HO383 := n5_
         have HB := n6_
         have HK := n7_
         have HO380 := n8_
         clear n0_ n1_ n2_ n3_ n4_ n5_ n6_ n7_ n8_ ho hb hg hat
         refine hK.out _ _ ⟨(blk_cell BK374.out 0).trans rfl, (blk_cell BK374.out 1).trans rfl⟩ (fun hHeld => ?_)
         clear hK K
         refine norm_ (a' := ?_) ?_ ?_; rotate_left
         ·show Act.put _ (some 9) _ = _
          simp only [PS]
          rfl
         exact norm_ (by simp only [putAll, Act.put, List.setIfInBounds_toArray, List.set_cons_zero, List.set_cons_succ]) (hCont (v376, v379, v382) _ ⟨hHeld, (by refine rr_ ?_; exact Kd.R_mono HO368.out (fun _ hk => hk.2)), (by refine rr_ ?_; exact Kd.R_mono HO371.out (fun _ hk => hk.2)), (rr_ HO380.out), (by refine rr_ ?_; exact Kd.R_mono HO383.out (fun _ hk => hk.2)), (by exact BK365.out), (by exact BK374.out), iS, kS, bI⟩)
       rintro ⟨v376, v379, v382⟩ w144 ⟨hS_, h0_, h1_, h2_, h3_, h4_, h5_, h6_, h7_, h8_⟩
       have n0_ : Aside0 (Kd.R (Kd.int .i64) 3 w144 w.heap.size (fun k_ => some k_ ≠ (v379 : Value).ownBlock) (.slice Ao132 t366.length co132) t366) := ⟨h0_⟩
       have n1_ : Aside0 (Kd.R k55 55 w144 w.heap.size (fun k_ => some k_ ≠ (v382 : Value).ownBlock) (.slice Ao136 t369.length co136) t369) := ⟨h1_⟩
       have n2_ : Aside0 (Kd.R (Kd.int .i64) 3 w144 w.heap.size (fun k_ => some k_ ≠ (.slice Ao132 t366.length co132 : Value).ownBlock) v379 y378) := ⟨h2_⟩
       have n3_ : Aside0 (Kd.R k55 55 w144 w.heap.size (fun k_ => some k_ ≠ (.slice Ao136 t369.length co136 : Value).ownBlock) v382 y381) := ⟨h3_⟩
       have n4_ : Aside0 (w144.heap[gb365]? = some (.cells #[.slice none 0 0, .slice none 0 0] 37 (0, 0))) := ⟨h4_⟩
       have n5_ : Aside0 (w144.heap[gb374]? = some (.cells #[.slice Ao132 t366.length co132, .slice Ao136 t369.length co136] 37 (0, 0))) := ⟨h5_⟩
       have n6_ : Aside0 (IsS92 w0 w144 g s0_0 t372 t373) := ⟨h6_⟩
       have n7_ : Aside0 (KeepBut w w144 g none) := ⟨h7_⟩
       have n8_ : Aside0 (Below w0.heap.size w0 w144) := ⟨h8_⟩
       clear HO368 HO371 BK365 BK374 HI0 HK HB h0_ h1_ h2_ h3_ h4_ h5_ h6_ h7_ h8_
       have HO368 := n0_
       have HO371 := n1_
       have HO380 := n2_
       have HO383 := n3_
       have BK365 := n4_
       have BK374 := n5_
       have HI0 := n6_
       have HK := n7_
       have HB := n8_
       clear n0_ n1_ n2_ n3_ n4_ n5_ n6_ n7_ n8_
       have hHeld : w144.cell? ⟨gb374, 0, none⟩ = some (.slice Ao132 t366.length co132) ∧ w144.cell? ⟨gb374, 1, none⟩ = some (.slice Ao136 t369.length co136) := hS_
       refine norm_ (a' := ?_) ?_ ?_; rotate_left
       ·simp only [putAll, Act.put, List.setIfInBounds_toArray, List.set_cons_zero, List.set_cons_succ]
        rfl
       refine one_ (i := 7) (N := some 13) #[T,T,T,T,T,T,T,T,F,F] rfl rfl (one_of HT_.out (by kernel_rfl)) (by decide) (fun K hK => ?_)
       refine Kd.R_append_rows_step k55 w.heap.size (by rfl) (.tmp 10) (.tmp 12) 35 55 (.agg #[(.int .i64 0), (.int .i64 0)]) 16 rfl Tryd.underlying35 info55 rfl (by decide) (by omega) v382 y381 t369 _ _ _ (fun k_ => some k_ ≠ (.slice Ao136 t369.length co136 : Value).ownBlock) (fun _ => False) rfl rfl ?aO ?aR (fun _ _ h => h) (fun _ h => h.elim) ?aF (Below.refl _ _) ?aS ?aL ?_
       (case aR => exact cc_ (Kd.R_reads' HO371.out).2.2)
       (case aF => exact (fun k_ hk => Kd.fresh' (Kd.R_lt (rr_ HO371.out)) k_ hk))
       (case aO => exact (rr_ HO383.out))
       (case aS => exact (kz w g))
       (case aL => have := LMc4.out; omega)
       intro v385 w145 ho hb hg hat
       rw [← Ny384.out] at ho
       have n0_ := Aside0.mk (IsS92.grown iS hg (IsS92.own_ne HI0.out HO383.out (by decide)))
       have n1_ := Aside0.mk (blk_grown BK365.out hg (Kd.R_ne HO383.out BK365.out (by decide)))
       have n2_ := Aside0.mk (Kd.R_over' (rr_ HO368.out) (Kd.R_typed (rr_ HO383.out)) (by decide) hg)
       have n3_ := Aside0.mk (Kd.R_after (ok := (fun _ => True)) (by refine rr_ ?_; exact Kd.R_mono HO371.out (fun _ hk => ⟨trivial, hk⟩)) hg hat)
       have n4_ := Aside0.mk (blk_grown BK374.out hg (Kd.R_ne HO383.out BK374.out (by decide)))
       have n5_ := Aside0.mk (Kd.R_over' (rr_ HO380.out) (Kd.R_typed (rr_ HO383.out)) (by decide) hg)
       have n6_ := Aside0.mk (below_weaken bI HL.out hb)
       have n7_ := Aside0.mk (KeepBut.trans kS (KeepBut.of_grown hg g) (Kd.R_base2 HO383.out))
       have n8_ := Aside0.mk (ho)
       clear HI0 BK365 HO368 HO371 BK374 HO380 HB HK HO383
       have HI0 := n0_
       have BK365 := n1_
       have HO368 := n2_
       have HO371 := n3_
       have BK374 := n4_
       have HO380 := n5_
       have HB := n6_
       have HK := n7_
       have HO386 := n8_
       clear n0_ n1_ n2_ n3_ n4_ n5_ n6_ n7_ n8_ ho hb hg hat
       obtain ⟨Ao146, co146, eo146⟩ := Kd.R_slice HO386.out
       (first | subst eo146 | (injection eo146 with f1_ f2_ f3_; have f4_ := f1_.symm; have f5_ := f3_.symm; clear f1_ f2_ f3_; subst f4_; subst f5_))
       obtain ⟨Ao147, co147, eo147⟩ := Kd.R_slice HO380.out
       (first | subst eo147 | (injection eo147 with f1_ f2_ f3_; have f4_ := f1_.symm; have f5_ := f3_.symm; clear f1_ f2_ f3_; subst f4_; subst f5_))
       refine hK.out _ _ ⟨(blk_cell BK374.out 0).trans rfl, (blk_cell BK374.out 1).trans rfl⟩ (fun hHeld => ?_)
       clear hK K
       refine norm_ (a' := ?_) ?_ ?_; rotate_left
       ·show Act.put _ (some 13) _ = _
        simp only [PS]
        rfl
       refine pure_ (i := 8) (N := some 14) (v := ?_) (a' := ?_) #[T,T,T,T,T,T,T,T,T,F] rfl rfl (any_of HT_.out (by kernel_rfl)) (fun _ _ _ h => h) (Or.inl ⟨by rfl, ?_⟩) ?_ ?_; rotate_left
       ·intro w'; go_simp; with_reducible rfl
       rotate_left
       ·simp only [PS]; rfl
       refine last_ (i := 9) (N := none) #[T,T,T,T,T,T,T,T,T,T] rfl rfl (one_of HT_.out (by kernel_rfl)) (by decide) (fun K hK => ?_)
       have hs148 : w145.cell? ⟨gb374, 0, none⟩ = some (.slice Ao132 t366.length co132) := (blk_cell BK374.out 0).trans rfl
       have hfs148 := blk_frozen BK374.out 0
       have hns148_0 := NB365_374.out
       have hms148_0 := NB374_365.out
       have hs149 : w145.cell? ⟨gb374, 1, none⟩ = some (.slice Ao136 t369.length co136) := (blk_cell BK374.out 1).trans rfl
       have hfs149 := blk_frozen BK374.out 1
       have hns149_0 := NB365_374.out
       have hms149_0 := NB374_365.out
       refine skip_ (w1 := ?_) (by rfl) rfl ?_ ?_; rotate_left
       ·go_simp
        rfl
       refine hK.out _ _ ?_
       clear hK K
       refine done_ (done_of HT_.out (by kernel_rfl)) ?_
       try go_wp2_with (first | ((with_reducible refine gate_callee (f := 53) rfl ?_); refine goesL_ (some 16) rfl rfl Tryd.func53 (by kernel_rfl) rfl #[.pointer (some ⟨g, 0, none⟩), .int .i64 16] rfl lm_ ?_; (with_reducible refine (spec_l01Below.calls g s0_0 t372 t373 16 t387 t388 t389 w0 _ ?side1 ?side2 A5.out).mono ?_); (case side1 => exact iS); (case side2 => exact bI); rintro e w150 ⟨rfl, hi, hb, hk⟩; refine ⟨_, rfl, ?_⟩; replace BK365 := Aside0.mk (KeepBut.blk hk (bf_ BK365.out) NB365_0.out (by simp)); replace HO368 := Aside0.mk (Kd.R_mono (Kd.R_keep (IsS92.apart (show IsS92 w0 _ g s0_0 t372 t373 from iS) (by refine rr_ ?_; exact (Kd.R_mono (Kd.R_far (p := ⟨gb374, 1, none⟩) (Kd.R_far (p := ⟨gb374, 0, none⟩) (Kd.R_types HO368.out BK374.out (by decide)) (fun _ hk => hk.2) (.slice Ao147 y378.length co147)) (fun _ hk => hk.2) (.slice Ao146 y384.length co146)) (fun _ h_ => h_.1))) (by decide)) hk (fun _ h => h.2)) (fun _ h => h.1)); replace HO371 := Aside0.mk (Kd.R_mono (Kd.R_keep (IsS92.apart (show IsS92 w0 _ g s0_0 t372 t373 from iS) (by refine rr_ ?_; exact (Kd.R_mono (Kd.R_far (p := ⟨gb374, 1, none⟩) (Kd.R_far (p := ⟨gb374, 0, none⟩) (Kd.R_types HO371.out BK374.out (by decide)) (fun _ hk => hk.2) (.slice Ao147 y378.length co147)) (fun _ hk => hk.2) (.slice Ao146 y384.length co146)) (fun _ h_ => h_.1))) (by decide)) hk (fun _ h => h.2)) (fun _ h => h.1)); replace HO380 := Aside0.mk (Kd.R_mono (Kd.R_keep (IsS92.apart (show IsS92 w0 _ g s0_0 t372 t373 from iS) (by refine rr_ ?_; exact (Kd.R_mono (Kd.R_far (p := ⟨gb374, 1, none⟩) (Kd.R_far (p := ⟨gb374, 0, none⟩) (Kd.R_types HO380.out BK374.out (by decide)) (fun _ hk => hk.2) (.slice Ao147 y378.length co147)) (fun _ hk => hk.2) (.slice Ao146 y384.length co146)) (fun _ h_ => h_.1))) (by decide)) hk (fun _ h => h.2)) (fun _ h => h.1)); replace HO386 := Aside0.mk (Kd.R_mono (Kd.R_keep (IsS92.apart (show IsS92 w0 _ g s0_0 t372 t373 from iS) (by refine rr_ ?_; exact (Kd.R_mono (Kd.R_far (p := ⟨gb374, 1, none⟩) (Kd.R_far (p := ⟨gb374, 0, none⟩) (Kd.R_types HO386.out BK374.out (by decide)) (fun _ hk => hk.2) (.slice Ao147 y378.length co147)) (fun _ hk => hk.2) (.slice Ao146 y384.length co146)) (fun _ h_ => h_.1))) (by decide)) hk (fun _ h => h.2)) (fun _ h => h.1)); replace BK374 := Aside0.mk (KeepBut.blk hk (g' := gb374) (o := .cells #[.slice Ao147 y378.length co147, .slice Ao146 y384.length co146] 37 (0, 0)) (by refine bk_ ?_; refine blk_put (cs := #[.slice Ao147 y378.length co147, .slice Ao136 t369.length co136]) ?_ 1 _ rfl; refine bk_ ?_; refine blk_put (cs := #[.slice Ao132 t366.length co132, .slice Ao136 t369.length co136]) ?_ 0 _ rfl; exact bk_ BK374.out) NB374_0.out (by simp)); replace HK := Aside0.mk (KeepBut.trans kS hk (.inl rfl)); replace HB := Aside0.mk (hb); replace HI0 := Aside0.mk (hi); (try clear hb hk hi); have hcz151_0 : w150.cell? ⟨gb374, 0, none⟩ = some (.slice Ao147 y378.length co147) := (blk_cell BK374.out 0).trans rfl; have hcz151_1 : w150.cell? ⟨gb374, 1, none⟩ = some (.slice Ao146 y384.length co146) := (blk_cell BK374.out 1).trans rfl; have hfz151_0 := blk_frozen BK374.out 0; have hfz151_1 := blk_frozen BK374.out 1; have hnb152 := NB365_0.out; have hnc152 := NB0_365.out; have hcz153_0 : w150.cell? ⟨gb365, 0, none⟩ = some (.slice none 0 0) := (blk_cell BK365.out 0).trans rfl; have hcz153_1 : w150.cell? ⟨gb365, 1, none⟩ = some (.slice none 0 0) := (blk_cell BK365.out 1).trans rfl; have hfz153_0 := blk_frozen BK365.out 0; have hfz153_1 := blk_frozen BK365.out 1))
       refine bodyPost_ret (results_cell_row rfl _ _ gb365 37 #[.slice Ao147 y378.length co147, .slice Ao146 y384.length co146] (0, 0) _ rfl (by refine bk_ ?_; refine blk_put (cs := #[.slice Ao147 y378.length co147, .slice none 0 0]) ?_ 1 _ rfl; refine bk_ ?_; refine blk_put (cs := #[.slice none 0 0, .slice none 0 0]) ?_ 0 _ rfl; exact bk_ BK365.out) Tryd.underlying37 rfl (by kernel_rfl)) rfl ?_
       exact ⟨_, _, by first | rfl | (simp [errW_none, errW_some] <;> rfl) | (simp [*, errW_none, errW_some] <;> rfl), by refine rr_ ?_; exact Kd.R_mono (Kd.R_far (p := ⟨gb365, 1, none⟩) (Kd.R_far (p := ⟨gb365, 0, none⟩) (Kd.R_types HO380.out BK365.out (by decide)) (fun _ hk => hk.2) (.slice Ao147 y378.length co147)) (fun _ hk => hk.2) (.slice Ao146 y384.length co146)) (fun _ hk => trivial), Kd.Q_of_R (by refine rr_ ?_; exact Kd.R_mono (Kd.R_far (p := ⟨gb365, 1, none⟩) (Kd.R_far (p := ⟨gb365, 0, none⟩) (Kd.R_types HO386.out BK365.out (by decide)) (fun _ hk => hk.2) (.slice Ao147 y378.length co147)) (fun _ hk => hk.2) (.slice Ao146 y384.length co146)) (fun _ hk => trivial)), by exact iS, by exact bI, by exact kS⟩
  ·rw [if_neg c4] at H
   exact absurd H (by simp)
 ·rw [if_neg c3] at H
  exact absurd H (by simp)

end Go.Proofs.YtpmgfmalpijjbaaDoor.PFnPaths
