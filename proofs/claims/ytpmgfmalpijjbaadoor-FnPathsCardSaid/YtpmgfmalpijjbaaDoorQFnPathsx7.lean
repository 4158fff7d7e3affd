/- The walks of FnPaths, part 7: what the print wrote, with some proofs of the session's own. -/
import Derived.Test.YtpmgfmalpijjbaaDoorName
import Derived.Test.YtpmgfmalpijjbaaDoorShort
import Derived.Test.YtpmgfmalpijjbaaDoorQFnPathsx0
import Derived.Test.YtpmgfmalpijjbaaDoorQFnPathsx3
import Derived.Test.YtpmgfmalpijjbaaDoorQFnPathsx5
import Derived.Test.YtpmgfmalpijjbaaDoorQFnPathsx6
namespace Go.Proofs.YtpmgfmalpijjbaaDoor.PFnPaths
open Go.RowKit Go.Proofs.YtpmgfmalpijjbaaDoor.Short Go.Proofs.YtpmgfmalpijjbaaDoorW.PrintWords Go.Proofs.YtpmgfmalpijjbaaDoorW.PrintLast Go.Proofs.YtpmgfmalpijjbaaDoorW.PrintMore
attribute [local go_sem] max2_int min2_int max_two min_two max_three min_three max_four min_four   -- for this text's walks alone
set_option linter.unusedVariables false
set_option linter.unusedSimpArgs false

/-! ### spec_ParsePath: function 17 -/
mutual
def spec_ParsePath.l0 : Nat → ByteArray → List ByteArray → Int → List Int → List (S55) → Option (List Int × (List (S55)) × Bool)
  | 0, _, _, _, _, _ => none
  | k + 1, x0, x5, x6, x185000, x185001 => if x6 < (x5.length : Int) then (spec_ParsePath.j1 k x0 x5 x6 (decide ((x185000.length : Int) ≤ 24)) x185000 x185001) else (spec_ParsePath.j1 k x0 x5 x6 false x185000 x185001)
def spec_ParsePath.j1 : Nat → ByteArray → List ByteArray → Int → Bool → List Int → List (S55) → Option (List Int × (List (S55)) × Bool)
  | 0, _, _, _, _, _, _ => none
  | k + 1, x0, x5, x6, x32, x185000, x185001 => if x32 = true then (spec_ParsePath.l1 k x0 x5 x6 0 0 x185000 x185001) else ((spec_PathText.f k x185000 x185001).bind fun bt188 => (if bt188.2 = true then (if bt188.1.toList = x0.toList then (some (x185000, x185001, true)) else (some (([] : List Int), ([] : List (S55)), false))) else (some (([] : List Int), ([] : List (S55)), false))))
def spec_ParsePath.l1 : Nat → ByteArray → List ByteArray → Int → Int → Int → List Int → List (S55) → Option (List Int × (List (S55)) × Bool)
  | 0, _, _, _, _, _, _, _ => none
  | k + 1, x0, x5, x6, x7, x8, x185000, x185001 => if x8 < 5 then (if 0 ≤ x6 then (if x6 < (x5.length : Int) then (if 0 ≤ x8 then (if x8 ≤ (wrap64 (x8 + 1)) then (if (wrap64 (x8 + 1)) ≤ 5 then (if (rdOf ByteArray.empty x5 x6).toList = ((⟨#[77, 76, 81, 67, 90]⟩ : ByteArray).extract (x8 : Int).toNat ((wrap64 (x8 + 1)) : Int).toNat).toList then (spec_ParsePath.l1 k x0 x5 x6 (wrap64 (x8 + 1)) (wrap64 (x8 + 1)) x185000 x185001) else (spec_ParsePath.l1 k x0 x5 x6 x7 (wrap64 (x8 + 1)) x185000 x185001)) else (none)) else (none)) else (none)) else (none)) else (none)) else ((spec_NeedOf.f x7).bind fun t191 => (if t191 < 0 then (spec_ParsePath.j3 k x0 x5 x6 x7 t191 true x185000 x185001) else (spec_ParsePath.j3 k x0 x5 x6 x7 t191 (decide ((wrap64 (x6 + (wrap64 (2 * t191)))) ≥ (x5.length : Int))) x185000 x185001)))
def spec_ParsePath.j3 : Nat → ByteArray → List ByteArray → Int → Int → Int → Bool → List Int → List (S55) → Option (List Int × (List (S55)) × Bool)
  | 0, _, _, _, _, _, _, _, _ => none
  | k + 1, x0, x5, x6, x7, x9, x60, x185000, x185001 => if x60 = true then (some (([] : List Int), ([] : List (S55)), false)) else (if x185000.length < 17592186044416 then (spec_ParsePath.l2 k x0 x5 x6 x9 0 (x185000 ++ [x7]) x185001) else (none))
def spec_ParsePath.l2 : Nat → ByteArray → List ByteArray → Int → Int → Int → List Int → List (S55) → Option (List Int × (List (S55)) × Bool)
  | 0, _, _, _, _, _, _, _ => none
  | k + 1, x0, x5, x6, x9, x10, x185000, x185001 => if x10 < x9 then (if 0 ≤ (wrap64 ((wrap64 (x6 + 1)) + (wrap64 (2 * x10)))) then (if (wrap64 ((wrap64 (x6 + 1)) + (wrap64 (2 * x10)))) < (x5.length : Int) then ((spec_l06Signed.f k (rdOf ByteArray.empty x5 (wrap64 ((wrap64 (x6 + 1)) + (wrap64 (2 * x10)))))).bind fun bt196 => (if 0 ≤ (wrap64 ((wrap64 (x6 + 2)) + (wrap64 (2 * x10)))) then (if (wrap64 ((wrap64 (x6 + 2)) + (wrap64 (2 * x10)))) < (x5.length : Int) then ((spec_l06Signed.f k (rdOf ByteArray.empty x5 (wrap64 ((wrap64 (x6 + 2)) + (wrap64 (2 * x10)))))).bind fun bt199 => (if bt196.2 = true then (if bt199.2 = true then (if x185001.length < 8796093022208 then (spec_ParsePath.l2 k x0 x5 x6 x9 (wrap64 (x10 + 1)) x185000 (x185001 ++ [(⟨bt196.1, bt199.1⟩ : S55)])) else (none)) else (some (([] : List Int), ([] : List (S55)), false))) else (some (([] : List Int), ([] : List (S55)), false)))) else (none)) else (none))) else (none)) else (none)) else (spec_ParsePath.l0 k x0 x5 (wrap64 ((wrap64 (x6 + 1)) + (wrap64 (2 * x9)))) x185000 x185001)
end
def spec_ParsePath.f (k : Nat) (a0 : ByteArray) : Option (List Int × (List (S55)) × Bool) := if a0.toList = ([] : List UInt8) then (some (([] : List Int), ([] : List (S55)), true)) else ((spec_l06Words.f k a0).bind fun t185 => (spec_ParsePath.l0 k a0 t185 0 ([] : List Int) ([] : List (S55))))
theorem spec_ParsePath.mono_l : ∀ k, (∀ y0 y1 y2 y3 y4, LeO (spec_ParsePath.l0 k y0 y1 y2 y3 y4) (spec_ParsePath.l0 (k + 1) y0 y1 y2 y3 y4)) ∧ (∀ y0 y1 y2 y3 y4 y5, LeO (spec_ParsePath.j1 k y0 y1 y2 y3 y4 y5) (spec_ParsePath.j1 (k + 1) y0 y1 y2 y3 y4 y5)) ∧ (∀ y0 y1 y2 y3 y4 y5 y6, LeO (spec_ParsePath.l1 k y0 y1 y2 y3 y4 y5 y6) (spec_ParsePath.l1 (k + 1) y0 y1 y2 y3 y4 y5 y6)) ∧ (∀ y0 y1 y2 y3 y4 y5 y6 y7, LeO (spec_ParsePath.j3 k y0 y1 y2 y3 y4 y5 y6 y7) (spec_ParsePath.j3 (k + 1) y0 y1 y2 y3 y4 y5 y6 y7)) ∧ (∀ y0 y1 y2 y3 y4 y5 y6, LeO (spec_ParsePath.l2 k y0 y1 y2 y3 y4 y5 y6) (spec_ParsePath.l2 (k + 1) y0 y1 y2 y3 y4 y5 y6))
  | 0 => ⟨fun _ _ _ _ _ r h => by simp [spec_ParsePath.l0] at h, fun _ _ _ _ _ _ r h => by simp [spec_ParsePath.j1] at h, fun _ _ _ _ _ _ _ r h => by simp [spec_ParsePath.l1] at h, fun _ _ _ _ _ _ _ _ r h => by simp [spec_ParsePath.j3] at h, fun _ _ _ _ _ _ _ r h => by simp [spec_ParsePath.l2] at h⟩
  | k + 1 => by
    obtain ⟨ih0, ih1, ih2, ih3, ih4⟩ := spec_ParsePath.mono_l k
    refine ⟨?_, ?_, ?_, ?_, ?_⟩
    · intro y0 y1 y2 y3 y4
      unfold spec_ParsePath.l0
      repeat' first
      | (with_reducible exact ih0 _ _ _ _ _)
      | (with_reducible exact ih1 _ _ _ _ _ _)
      | (with_reducible exact ih2 _ _ _ _ _ _ _)
      | (with_reducible exact ih3 _ _ _ _ _ _ _ _)
      | (with_reducible exact ih4 _ _ _ _ _ _ _)
      | (with_reducible exact spec_PathText.mono _ _ _)
      | (with_reducible exact spec_l06Signed.mono _ _)
      | (with_reducible exact spec_l06Words.mono _ _)
      | (with_reducible exact LeO.refl _)
      | (with_reducible exact LeO.none _)
      | (with_reducible refine LeO.ite ?_ ?_)
      | (with_reducible refine LeO.bind ?_ (fun _ => ?_))
      | exact ih0 _ _ _ _ _
      | exact ih1 _ _ _ _ _ _
      | exact ih2 _ _ _ _ _ _ _
      | exact ih3 _ _ _ _ _ _ _ _
      | exact ih4 _ _ _ _ _ _ _
      | exact spec_PathText.mono _ _ _
      | exact spec_l06Signed.mono _ _
      | exact spec_l06Words.mono _ _
      | exact LeO.none _
      | refine LeO.ite ?_ ?_
      | refine LeO.bind ?_ (fun _ => ?_)
    · intro y0 y1 y2 y3 y4 y5
      unfold spec_ParsePath.j1
      repeat' first
      | (with_reducible exact ih0 _ _ _ _ _)
      | (with_reducible exact ih1 _ _ _ _ _ _)
      | (with_reducible exact ih2 _ _ _ _ _ _ _)
      | (with_reducible exact ih3 _ _ _ _ _ _ _ _)
      | (with_reducible exact ih4 _ _ _ _ _ _ _)
      | (with_reducible exact spec_PathText.mono _ _ _)
      | (with_reducible exact spec_l06Signed.mono _ _)
      | (with_reducible exact spec_l06Words.mono _ _)
      | (with_reducible exact LeO.refl _)
      | (with_reducible exact LeO.none _)
      | (with_reducible refine LeO.ite ?_ ?_)
      | (with_reducible refine LeO.bind ?_ (fun _ => ?_))
      | exact ih0 _ _ _ _ _
      | exact ih1 _ _ _ _ _ _
      | exact ih2 _ _ _ _ _ _ _
      | exact ih3 _ _ _ _ _ _ _ _
      | exact ih4 _ _ _ _ _ _ _
      | exact spec_PathText.mono _ _ _
      | exact spec_l06Signed.mono _ _
      | exact spec_l06Words.mono _ _
      | exact LeO.none _
      | refine LeO.ite ?_ ?_
      | refine LeO.bind ?_ (fun _ => ?_)
    · intro y0 y1 y2 y3 y4 y5 y6
      unfold spec_ParsePath.l1
      repeat' first
      | (with_reducible exact ih0 _ _ _ _ _)
      | (with_reducible exact ih1 _ _ _ _ _ _)
      | (with_reducible exact ih2 _ _ _ _ _ _ _)
      | (with_reducible exact ih3 _ _ _ _ _ _ _ _)
      | (with_reducible exact ih4 _ _ _ _ _ _ _)
      | (with_reducible exact spec_PathText.mono _ _ _)
      | (with_reducible exact spec_l06Signed.mono _ _)
      | (with_reducible exact spec_l06Words.mono _ _)
      | (with_reducible exact LeO.refl _)
      | (with_reducible exact LeO.none _)
      | (with_reducible refine LeO.ite ?_ ?_)
      | (with_reducible refine LeO.bind ?_ (fun _ => ?_))
      | exact ih0 _ _ _ _ _
      | exact ih1 _ _ _ _ _ _
      | exact ih2 _ _ _ _ _ _ _
      | exact ih3 _ _ _ _ _ _ _ _
      | exact ih4 _ _ _ _ _ _ _
      | exact spec_PathText.mono _ _ _
      | exact spec_l06Signed.mono _ _
      | exact spec_l06Words.mono _ _
      | exact LeO.none _
      | refine LeO.ite ?_ ?_
      | refine LeO.bind ?_ (fun _ => ?_)
    · intro y0 y1 y2 y3 y4 y5 y6 y7
      unfold spec_ParsePath.j3
      repeat' first
      | (with_reducible exact ih0 _ _ _ _ _)
      | (with_reducible exact ih1 _ _ _ _ _ _)
      | (with_reducible exact ih2 _ _ _ _ _ _ _)
      | (with_reducible exact ih3 _ _ _ _ _ _ _ _)
      | (with_reducible exact ih4 _ _ _ _ _ _ _)
      | (with_reducible exact spec_PathText.mono _ _ _)
      | (with_reducible exact spec_l06Signed.mono _ _)
      | (with_reducible exact spec_l06Words.mono _ _)
      | (with_reducible exact LeO.refl _)
      | (with_reducible exact LeO.none _)
      | (with_reducible refine LeO.ite ?_ ?_)
      | (with_reducible refine LeO.bind ?_ (fun _ => ?_))
      | exact ih0 _ _ _ _ _
      | exact ih1 _ _ _ _ _ _
      | exact ih2 _ _ _ _ _ _ _
      | exact ih3 _ _ _ _ _ _ _ _
      | exact ih4 _ _ _ _ _ _ _
      | exact spec_PathText.mono _ _ _
      | exact spec_l06Signed.mono _ _
      | exact spec_l06Words.mono _ _
      | exact LeO.none _
      | refine LeO.ite ?_ ?_
      | refine LeO.bind ?_ (fun _ => ?_)
    · intro y0 y1 y2 y3 y4 y5 y6
      unfold spec_ParsePath.l2
      repeat' first
      | (with_reducible exact ih0 _ _ _ _ _)
      | (with_reducible exact ih1 _ _ _ _ _ _)
      | (with_reducible exact ih2 _ _ _ _ _ _ _)
      | (with_reducible exact ih3 _ _ _ _ _ _ _ _)
      | (with_reducible exact ih4 _ _ _ _ _ _ _)
      | (with_reducible exact spec_PathText.mono _ _ _)
      | (with_reducible exact spec_l06Signed.mono _ _)
      | (with_reducible exact spec_l06Words.mono _ _)
      | (with_reducible exact LeO.refl _)
      | (with_reducible exact LeO.none _)
      | (with_reducible refine LeO.ite ?_ ?_)
      | (with_reducible refine LeO.bind ?_ (fun _ => ?_))
      | exact ih0 _ _ _ _ _
      | exact ih1 _ _ _ _ _ _
      | exact ih2 _ _ _ _ _ _ _
      | exact ih3 _ _ _ _ _ _ _ _
      | exact ih4 _ _ _ _ _ _ _
      | exact spec_PathText.mono _ _ _
      | exact spec_l06Signed.mono _ _
      | exact spec_l06Words.mono _ _
      | exact LeO.none _
      | refine LeO.ite ?_ ?_
      | refine LeO.bind ?_ (fun _ => ?_)
theorem spec_ParsePath.mono : ∀ a0 k, LeO (spec_ParsePath.f k a0) (spec_ParsePath.f (k + 1) a0) := by
  intro a0 k
  obtain ⟨ih0, ih1, ih2, ih3, ih4⟩ := spec_ParsePath.mono_l k
  unfold spec_ParsePath.f
  repeat' first
      | (with_reducible exact ih0 _ _ _ _ _)
      | (with_reducible exact ih1 _ _ _ _ _ _)
      | (with_reducible exact ih2 _ _ _ _ _ _ _)
      | (with_reducible exact ih3 _ _ _ _ _ _ _ _)
      | (with_reducible exact ih4 _ _ _ _ _ _ _)
      | (with_reducible exact spec_PathText.mono _ _ _)
      | (with_reducible exact spec_l06Signed.mono _ _)
      | (with_reducible exact spec_l06Words.mono _ _)
      | (with_reducible exact LeO.refl _)
      | (with_reducible exact LeO.none _)
      | (with_reducible refine LeO.ite ?_ ?_)
      | (with_reducible refine LeO.bind ?_ (fun _ => ?_))
      | exact ih0 _ _ _ _ _
      | exact ih1 _ _ _ _ _ _
      | exact ih2 _ _ _ _ _ _ _
      | exact ih3 _ _ _ _ _ _ _ _
      | exact ih4 _ _ _ _ _ _ _
      | exact spec_PathText.mono _ _ _
      | exact spec_l06Signed.mono _ _
      | exact spec_l06Words.mono _ _
      | exact LeO.none _
      | refine LeO.ite ?_ ?_
      | refine LeO.bind ?_ (fun _ => ?_)
set_option maxHeartbeats 8000000 in
set_option maxRecDepth 100000 in
theorem spec_ParsePath.calls (k : Nat) (a0 : ByteArray) (r1 : List Int) (r2 : List (S55)) (r3 : Bool) (w : World) (h : spec_ParsePath.f k a0 = some (r1, r2, r3)) :
    Calls Tryd.prog 17 #[.string a0] w fun e w' => ∃ v0_ v1_ : Value, e = .returned (.tuple #[.agg #[v0_, v1_], .bool r3]) ∧ Kd.R (Kd.int .i64) 3 w' w.heap.size (fun _ => True) v0_ r1 ∧ Kd.R k55 55 w' w.heap.size (fun _ => True) v1_ r2 ∧ Below w.heap.size w w' := by
 have hu37 := Tryd.underlying37
 have hu55 := Tryd.underlying55
 have HB := Aside0.mk (Below.refl w.heap.size w)
 have H : (if a0.toList = ([] : List UInt8) then (some (([] : List Int), ([] : List (S55)), true)) else ((spec_l06Words.f k a0).bind fun t185 => (spec_ParsePath.l0 k a0 t185 0 ([] : List Int) ([] : List (S55))))) = some (r1, r2, r3) := h
 clear h
 by_cases c2 : a0.toList = ([] : List UInt8)
 ·rw [if_pos c2] at H
  have c2b0 : (a0.toList == ([] : List UInt8)) = true := beq_iff_eq.mpr c2
  have c2b1 : (a0.toList != ([] : List UInt8)) = false := bne_eq_false_iff_eq.mpr c2
  clear c2
  simp only [Option.some.injEq, Prod.mk.injEq] at H
  obtain ⟨rfl, rfl, rfl⟩ := H
  go_enter Tryd.func17, Tryd.ntmps17
  go_wp2_with (first | ((with_reducible refine gate_dst (N := 2) rfl ?_); (try (refine gate_guard (by rfl) ?_; dsimp only)); refine box_event ?hg (N := 2) ?hd (cs := #[.slice none 0 0, .slice none 0 0]) (t := 37) ?hr ?_; (case hd => rfl); (case hg => rfl); (case hr => first | (go_simp; done) | (go_simp; rfl)); intro gb183 hg w3 hbox hb; have BK183 := Aside0.mk (hbox); have GW183 := Aside0.mk ((by rw [hg]; exact (below_size bS) : w.heap.size ≤ gb183)); have GE183 := Aside0.mk ((by rw [hg]; exact (below_size bS) : w.heap.size ≤ gb183)); replace HB := Aside0.mk (below_step bS hb); clear hb hbox hg) | ((with_reducible refine gate_dst (N := 4) rfl ?_); (try (refine gate_guard (by rfl) ?_; dsimp only)); refine box_event ?hg (N := 4) ?hd (cs := #[.slice none 0 0, .slice none 0 0]) (t := 37) ?hr ?_; (case hd => rfl); (case hg => rfl); (case hr => first | (go_simp; done) | (go_simp; rfl)); intro gb184 hg w4 hbox hb; have BK184 := Aside0.mk (hbox); have GW184 := Aside0.mk ((by rw [hg]; exact (below_size bS) : w.heap.size ≤ gb184)); have GE184 := Aside0.mk ((by rw [hg]; exact (below_size bS) : w.heap.size ≤ gb184)); replace HB := Aside0.mk (below_step bS hb); have NB183_184 := Aside0.mk ((by rw [hg]; exact Nat.ne_of_lt (blk_lt (bk_ BK183.out)) : gb183 ≠ gb184)); have NB184_183 := Aside0.mk ((by rw [hg]; exact Nat.ne_of_gt (blk_lt (bk_ BK183.out)) : gb184 ≠ gb183)); replace BK183 := Aside0.mk (blk_below (bk_ BK183.out) hb); clear hb hbox hg; have hnb5 := NB184_183.out; have hnc5 := NB183_184.out; have hcz6_0 : w4.cell? ⟨gb184, 0, none⟩ = some (.slice none 0 0) := (blk_cell BK184.out 0).trans rfl; have hcz6_1 : w4.cell? ⟨gb184, 1, none⟩ = some (.slice none 0 0) := (blk_cell BK184.out 1).trans rfl; have hfz6_0 := blk_frozen BK184.out 0; have hfz6_1 := blk_frozen BK184.out 1; have hcz7_0 : w4.cell? ⟨gb183, 0, none⟩ = some (.slice none 0 0) := (blk_cell BK183.out 0).trans rfl; have hcz7_1 : w4.cell? ⟨gb183, 1, none⟩ = some (.slice none 0 0) := (blk_cell BK183.out 1).trans rfl; have hfz7_0 := blk_frozen BK183.out 0; have hfz7_1 := blk_frozen BK183.out 1))
  repeat (go_quiet (first | ((with_reducible refine gate_dst (N := 2) rfl ?_); (try (refine gate_guard (by rfl) ?_; dsimp only)); refine box_event ?hg (N := 2) ?hd (cs := #[.slice none 0 0, .slice none 0 0]) (t := 37) ?hr ?_; (case hd => rfl); (case hg => rfl); (case hr => first | (go_simp; done) | (go_simp; rfl)); intro gb183 hg w3 hbox hb; have BK183 := Aside0.mk (hbox); have GW183 := Aside0.mk ((by rw [hg]; exact (below_size bS) : w.heap.size ≤ gb183)); have GE183 := Aside0.mk ((by rw [hg]; exact (below_size bS) : w.heap.size ≤ gb183)); replace HB := Aside0.mk (below_step bS hb); clear hb hbox hg) | ((with_reducible refine gate_dst (N := 4) rfl ?_); (try (refine gate_guard (by rfl) ?_; dsimp only)); refine box_event ?hg (N := 4) ?hd (cs := #[.slice none 0 0, .slice none 0 0]) (t := 37) ?hr ?_; (case hd => rfl); (case hg => rfl); (case hr => first | (go_simp; done) | (go_simp; rfl)); intro gb184 hg w4 hbox hb; have BK184 := Aside0.mk (hbox); have GW184 := Aside0.mk ((by rw [hg]; exact (below_size bS) : w.heap.size ≤ gb184)); have GE184 := Aside0.mk ((by rw [hg]; exact (below_size bS) : w.heap.size ≤ gb184)); replace HB := Aside0.mk (below_step bS hb); have NB183_184 := Aside0.mk ((by rw [hg]; exact Nat.ne_of_lt (blk_lt (bk_ BK183.out)) : gb183 ≠ gb184)); have NB184_183 := Aside0.mk ((by rw [hg]; exact Nat.ne_of_gt (blk_lt (bk_ BK183.out)) : gb184 ≠ gb183)); replace BK183 := Aside0.mk (blk_below (bk_ BK183.out) hb); clear hb hbox hg; have hnb5 := NB184_183.out; have hnc5 := NB183_184.out; have hcz6_0 : w4.cell? ⟨gb184, 0, none⟩ = some (.slice none 0 0) := (blk_cell BK184.out 0).trans rfl; have hcz6_1 : w4.cell? ⟨gb184, 1, none⟩ = some (.slice none 0 0) := (blk_cell BK184.out 1).trans rfl; have hfz6_0 := blk_frozen BK184.out 0; have hfz6_1 := blk_frozen BK184.out 1; have hcz7_0 : w4.cell? ⟨gb183, 0, none⟩ = some (.slice none 0 0) := (blk_cell BK183.out 0).trans rfl; have hcz7_1 : w4.cell? ⟨gb183, 1, none⟩ = some (.slice none 0 0) := (blk_cell BK183.out 1).trans rfl; have hfz7_0 := blk_frozen BK183.out 0; have hfz7_1 := blk_frozen BK183.out 1)); try go_wp2_with (first | ((with_reducible refine gate_dst (N := 2) rfl ?_); (try (refine gate_guard (by rfl) ?_; dsimp only)); refine box_event ?hg (N := 2) ?hd (cs := #[.slice none 0 0, .slice none 0 0]) (t := 37) ?hr ?_; (case hd => rfl); (case hg => rfl); (case hr => first | (go_simp; done) | (go_simp; rfl)); intro gb183 hg w3 hbox hb; have BK183 := Aside0.mk (hbox); have GW183 := Aside0.mk ((by rw [hg]; exact (below_size bS) : w.heap.size ≤ gb183)); have GE183 := Aside0.mk ((by rw [hg]; exact (below_size bS) : w.heap.size ≤ gb183)); replace HB := Aside0.mk (below_step bS hb); clear hb hbox hg) | ((with_reducible refine gate_dst (N := 4) rfl ?_); (try (refine gate_guard (by rfl) ?_; dsimp only)); refine box_event ?hg (N := 4) ?hd (cs := #[.slice none 0 0, .slice none 0 0]) (t := 37) ?hr ?_; (case hd => rfl); (case hg => rfl); (case hr => first | (go_simp; done) | (go_simp; rfl)); intro gb184 hg w4 hbox hb; have BK184 := Aside0.mk (hbox); have GW184 := Aside0.mk ((by rw [hg]; exact (below_size bS) : w.heap.size ≤ gb184)); have GE184 := Aside0.mk ((by rw [hg]; exact (below_size bS) : w.heap.size ≤ gb184)); replace HB := Aside0.mk (below_step bS hb); have NB183_184 := Aside0.mk ((by rw [hg]; exact Nat.ne_of_lt (blk_lt (bk_ BK183.out)) : gb183 ≠ gb184)); have NB184_183 := Aside0.mk ((by rw [hg]; exact Nat.ne_of_gt (blk_lt (bk_ BK183.out)) : gb184 ≠ gb183)); replace BK183 := Aside0.mk (blk_below (bk_ BK183.out) hb); clear hb hbox hg; have hnb5 := NB184_183.out; have hnc5 := NB183_184.out; have hcz6_0 : w4.cell? ⟨gb184, 0, none⟩ = some (.slice none 0 0) := (blk_cell BK184.out 0).trans rfl; have hcz6_1 : w4.cell? ⟨gb184, 1, none⟩ = some (.slice none 0 0) := (blk_cell BK184.out 1).trans rfl; have hfz6_0 := blk_frozen BK184.out 0; have hfz6_1 := blk_frozen BK184.out 1; have hcz7_0 : w4.cell? ⟨gb183, 0, none⟩ = some (.slice none 0 0) := (blk_cell BK183.out 0).trans rfl; have hcz7_1 : w4.cell? ⟨gb183, 1, none⟩ = some (.slice none 0 0) := (blk_cell BK183.out 1).trans rfl; have hfz7_0 := blk_frozen BK183.out 0; have hfz7_1 := blk_frozen BK183.out 1)))
  refine bodyPost_ret (results_ct rfl _ _ gb183 37 #[.slice none 0 0, .slice none 0 0] (0, 0) _ rfl (by refine bk_ ?_; refine blk_put (cs := #[.slice none 0 0, .slice none 0 0]) ?_ 1 _ rfl; refine bk_ ?_; refine blk_put (cs := #[.slice none 0 0, .slice none 0 0]) ?_ 0 _ rfl; refine bk_ ?_; refine blk_far ?_ NB183_184.out _; refine bk_ ?_; refine blk_far ?_ NB183_184.out _; exact bk_ BK183.out) Tryd.underlying37 rfl (by kernel_rfl)) rfl ?_
  exact ⟨_, _, by first | rfl | (simp [errW_none, errW_some] <;> rfl) | (simp [*, errW_none, errW_some] <;> rfl), by first | exact Kd.R_nil _ _ _ _ _ | exact Kd.N_nil _ _ _ _ _ | exact Kd.V_nil _ _ _ _ _ | exact Kd.Q_nil _ _ _ _ _ | exact Kd.S_nil _ _ _ _ _, by first | exact Kd.R_nil _ _ _ _ _ | exact Kd.N_nil _ _ _ _ _ | exact Kd.V_nil _ _ _ _ _ | exact Kd.Q_nil _ _ _ _ _ | exact Kd.S_nil _ _ _ _ _, by exact bS⟩
 ·rw [if_neg c2] at H
  have c2b0 : (a0.toList == ([] : List UInt8)) = false := beq_eq_false_iff_ne.mpr c2
  have c2b1 : (a0.toList != ([] : List UInt8)) = true := bne_iff_ne.mpr c2
  replace H := Option.bind_eq_some_iff.mp H
  obtain ⟨t185, A80, H⟩ := H
  try dsimp only at H
  have A8 := Aside0.mk A80
  clear A80
  have H' := Aside0.mk H
  clear H
  go_enter Tryd.func17, Tryd.ntmps17
  go_wp2_with (first | ((with_reducible refine gate_dst (N := 2) rfl ?_); (try (refine gate_guard (by rfl) ?_; dsimp only)); refine box_event ?hg (N := 2) ?hd (cs := #[.slice none 0 0, .slice none 0 0]) (t := 37) ?hr ?_; (case hd => rfl); (case hg => rfl); (case hr => first | (go_simp; done) | (go_simp; rfl)); intro gb183 hg w9 hbox hb; have BK183 := Aside0.mk (hbox); have GW183 := Aside0.mk ((by rw [hg]; exact (below_size bS) : w.heap.size ≤ gb183)); have GE183 := Aside0.mk ((by rw [hg]; exact (below_size bS) : w.heap.size ≤ gb183)); replace HB := Aside0.mk (below_step bS hb); clear hb hbox hg) | ((with_reducible refine gate_dst (N := 4) rfl ?_); (try (refine gate_guard (by rfl) ?_; dsimp only)); refine box_event ?hg (N := 4) ?hd (cs := #[.slice none 0 0, .slice none 0 0]) (t := 37) ?hr ?_; (case hd => rfl); (case hg => rfl); (case hr => first | (go_simp; done) | (go_simp; rfl)); intro gb184 hg w10 hbox hb; have BK184 := Aside0.mk (hbox); have GW184 := Aside0.mk ((by rw [hg]; exact (below_size bS) : w.heap.size ≤ gb184)); have GE184 := Aside0.mk ((by rw [hg]; exact (below_size bS) : w.heap.size ≤ gb184)); replace HB := Aside0.mk (below_step bS hb); have NB183_184 := Aside0.mk ((by rw [hg]; exact Nat.ne_of_lt (blk_lt (bk_ BK183.out)) : gb183 ≠ gb184)); have NB184_183 := Aside0.mk ((by rw [hg]; exact Nat.ne_of_gt (blk_lt (bk_ BK183.out)) : gb184 ≠ gb183)); replace BK183 := Aside0.mk (blk_below (bk_ BK183.out) hb); clear hb hbox hg; have hnb11 := NB184_183.out; have hnc11 := NB183_184.out; have hcz12_0 : w10.cell? ⟨gb184, 0, none⟩ = some (.slice none 0 0) := (blk_cell BK184.out 0).trans rfl; have hcz12_1 : w10.cell? ⟨gb184, 1, none⟩ = some (.slice none 0 0) := (blk_cell BK184.out 1).trans rfl; have hfz12_0 := blk_frozen BK184.out 0; have hfz12_1 := blk_frozen BK184.out 1) | (go_at_call 40; (with_reducible refine (spec_l06Words.calls k a0 t185 _ A8.out).mono ?_); rintro e w13 ⟨v186, rfl, ho0, hb⟩; have HO187 := Aside0.mk (Kd.R_lower ho0 (below_size bS)); replace BK183 := Aside0.mk (blk_below (bf_ BK183.out) hb); replace BK184 := Aside0.mk (blk_below (g := gb184) (o := .cells #[.slice none 0 0, .slice none 0 0] 37 (0, 0)) (by refine bk_ ?_; refine blk_put (cs := #[.slice none 0 0, .slice none 0 0]) ?_ 1 _ rfl; refine bk_ ?_; refine blk_put (cs := #[.slice none 0 0, .slice none 0 0]) ?_ 0 _ rfl; exact bk_ BK184.out) hb); replace HB := Aside0.mk (below_step bS hb); (try clear hb ho0)))
  repeat (go_quiet (first | ((with_reducible refine gate_dst (N := 2) rfl ?_); (try (refine gate_guard (by rfl) ?_; dsimp only)); refine box_event ?hg (N := 2) ?hd (cs := #[.slice none 0 0, .slice none 0 0]) (t := 37) ?hr ?_; (case hd => rfl); (case hg => rfl); (case hr => first | (go_simp; done) | (go_simp; rfl)); intro gb183 hg w9 hbox hb; have BK183 := Aside0.mk (hbox); have GW183 := Aside0.mk ((by rw [hg]; exact (below_size bS) : w.heap.size ≤ gb183)); have GE183 := Aside0.mk ((by rw [hg]; exact (below_size bS) : w.heap.size ≤ gb183)); replace HB := Aside0.mk (below_step bS hb); clear hb hbox hg) | ((with_reducible refine gate_dst (N := 4) rfl ?_); (try (refine gate_guard (by rfl) ?_; dsimp only)); refine box_event ?hg (N := 4) ?hd (cs := #[.slice none 0 0, .slice none 0 0]) (t := 37) ?hr ?_; (case hd => rfl); (case hg => rfl); (case hr => first | (go_simp; done) | (go_simp; rfl)); intro gb184 hg w10 hbox hb; have BK184 := Aside0.mk (hbox); have GW184 := Aside0.mk ((by rw [hg]; exact (below_size bS) : w.heap.size ≤ gb184)); have GE184 := Aside0.mk ((by rw [hg]; exact (below_size bS) : w.heap.size ≤ gb184)); replace HB := Aside0.mk (below_step bS hb); have NB183_184 := Aside0.mk ((by rw [hg]; exact Nat.ne_of_lt (blk_lt (bk_ BK183.out)) : gb183 ≠ gb184)); have NB184_183 := Aside0.mk ((by rw [hg]; exact Nat.ne_of_gt (blk_lt (bk_ BK183.out)) : gb184 ≠ gb183)); replace BK183 := Aside0.mk (blk_below (bk_ BK183.out) hb); clear hb hbox hg; have hnb11 := NB184_183.out; have hnc11 := NB183_184.out; have hcz12_0 : w10.cell? ⟨gb184, 0, none⟩ = some (.slice none 0 0) := (blk_cell BK184.out 0).trans rfl; have hcz12_1 : w10.cell? ⟨gb184, 1, none⟩ = some (.slice none 0 0) := (blk_cell BK184.out 1).trans rfl; have hfz12_0 := blk_frozen BK184.out 0; have hfz12_1 := blk_frozen BK184.out 1) | (go_at_call 40; (with_reducible refine (spec_l06Words.calls k a0 t185 _ A8.out).mono ?_); rintro e w13 ⟨v186, rfl, ho0, hb⟩; have HO187 := Aside0.mk (Kd.R_lower ho0 (below_size bS)); replace BK183 := Aside0.mk (blk_below (bf_ BK183.out) hb); replace BK184 := Aside0.mk (blk_below (g := gb184) (o := .cells #[.slice none 0 0, .slice none 0 0] 37 (0, 0)) (by refine bk_ ?_; refine blk_put (cs := #[.slice none 0 0, .slice none 0 0]) ?_ 1 _ rfl; refine bk_ ?_; refine blk_put (cs := #[.slice none 0 0, .slice none 0 0]) ?_ 0 _ rfl; exact bk_ BK184.out) hb); replace HB := Aside0.mk (below_step bS hb); (try clear hb ho0))); try go_wp2_with (first | ((with_reducible refine gate_dst (N := 2) rfl ?_); (try (refine gate_guard (by rfl) ?_; dsimp only)); refine box_event ?hg (N := 2) ?hd (cs := #[.slice none 0 0, .slice none 0 0]) (t := 37) ?hr ?_; (case hd => rfl); (case hg => rfl); (case hr => first | (go_simp; done) | (go_simp; rfl)); intro gb183 hg w9 hbox hb; have BK183 := Aside0.mk (hbox); have GW183 := Aside0.mk ((by rw [hg]; exact (below_size bS) : w.heap.size ≤ gb183)); have GE183 := Aside0.mk ((by rw [hg]; exact (below_size bS) : w.heap.size ≤ gb183)); replace HB := Aside0.mk (below_step bS hb); clear hb hbox hg) | ((with_reducible refine gate_dst (N := 4) rfl ?_); (try (refine gate_guard (by rfl) ?_; dsimp only)); refine box_event ?hg (N := 4) ?hd (cs := #[.slice none 0 0, .slice none 0 0]) (t := 37) ?hr ?_; (case hd => rfl); (case hg => rfl); (case hr => first | (go_simp; done) | (go_simp; rfl)); intro gb184 hg w10 hbox hb; have BK184 := Aside0.mk (hbox); have GW184 := Aside0.mk ((by rw [hg]; exact (below_size bS) : w.heap.size ≤ gb184)); have GE184 := Aside0.mk ((by rw [hg]; exact (below_size bS) : w.heap.size ≤ gb184)); replace HB := Aside0.mk (below_step bS hb); have NB183_184 := Aside0.mk ((by rw [hg]; exact Nat.ne_of_lt (blk_lt (bk_ BK183.out)) : gb183 ≠ gb184)); have NB184_183 := Aside0.mk ((by rw [hg]; exact Nat.ne_of_gt (blk_lt (bk_ BK183.out)) : gb184 ≠ gb183)); replace BK183 := Aside0.mk (blk_below (bk_ BK183.out) hb); clear hb hbox hg; have hnb11 := NB184_183.out; have hnc11 := NB183_184.out; have hcz12_0 : w10.cell? ⟨gb184, 0, none⟩ = some (.slice none 0 0) := (blk_cell BK184.out 0).trans rfl; have hcz12_1 : w10.cell? ⟨gb184, 1, none⟩ = some (.slice none 0 0) := (blk_cell BK184.out 1).trans rfl; have hfz12_0 := blk_frozen BK184.out 0; have hfz12_1 := blk_frozen BK184.out 1) | (go_at_call 40; (with_reducible refine (spec_l06Words.calls k a0 t185 _ A8.out).mono ?_); rintro e w13 ⟨v186, rfl, ho0, hb⟩; have HO187 := Aside0.mk (Kd.R_lower ho0 (below_size bS)); replace BK183 := Aside0.mk (blk_below (bf_ BK183.out) hb); replace BK184 := Aside0.mk (blk_below (g := gb184) (o := .cells #[.slice none 0 0, .slice none 0 0] 37 (0, 0)) (by refine bk_ ?_; refine blk_put (cs := #[.slice none 0 0, .slice none 0 0]) ?_ 1 _ rfl; refine bk_ ?_; refine blk_put (cs := #[.slice none 0 0, .slice none 0 0]) ?_ 0 _ rfl; exact bk_ BK184.out) hb); replace HB := Aside0.mk (below_step bS hb); (try clear hb ho0))))
  go_loopg [6] k (fun kq v6 w' => ∃ (x6_1 : Int) (x185000_1 : List Int) (x185001_1 : List (S55)) (u185000 : Value) (u185001 : Value), v6 = .int .i64 x6_1 ∧ Aside0 (spec_ParsePath.l0 kq a0 t185 x6_1 x185000_1 x185001_1 = some (r1, r2, r3)) ∧ Aside0 (kq ≤ k) ∧ Aside0 (Kd.R Kd.string 9 w' w.heap.size (fun _ => True) v186 t185) ∧ Aside0 (Kd.R (Kd.int .i64) 3 w' w.heap.size (fun _ => True) u185000 x185000_1) ∧ Aside0 (Kd.R k55 55 w' w.heap.size (fun _ => True) u185001 x185001_1) ∧ Aside0 (w'.heap[gb183]? = some (.cells #[(.slice none 0 0), (.slice none 0 0)] 37 (0, 0))) ∧ Aside0 (w'.heap[gb184]? = some (.cells #[u185000, u185001] 37 (0, 0))) ∧ Aside0 (Below w.heap.size w w'))
  case atStart => exact ⟨(0), (([] : List Int)), (([] : List (S55))), (.slice none 0 0), (.slice none 0 0), (by first | rfl | (simp; done) | (simp [*]; done)), H', ⟨Nat.le_refl _⟩, ⟨rr_ HO187.out⟩, ⟨by first | exact Kd.R_nil _ _ _ _ _ | exact Kd.N_nil _ _ _ _ _ | exact Kd.V_nil _ _ _ _ _ | exact Kd.Q_nil _ _ _ _ _ | exact Kd.S_nil _ _ _ _ _⟩, ⟨by first | exact Kd.R_nil _ _ _ _ _ | exact Kd.N_nil _ _ _ _ _ | exact Kd.V_nil _ _ _ _ _ | exact Kd.Q_nil _ _ _ _ _ | exact Kd.S_nil _ _ _ _ _⟩, ⟨bk_ BK183.out⟩, ⟨bk_ BK184.out⟩, ⟨bS⟩⟩
  case round =>
   clear H'
   try clear c1
   try clear c2
   try clear c2b0
   try clear c2b1
   try clear p2
   try clear c5
   try clear c11
   try clear hcz12_0
   try clear hcz12_1
   try clear hcz6_0
   try clear hcz6_1
   try clear hcz7_0
   try clear hcz7_1
   try clear hfz12_0
   try clear hfz12_1
   try clear hfz6_0
   try clear hfz6_1
   try clear hfz7_0
   try clear hfz7_1
   obtain ⟨x6_1, x185000_1, x185001_1, u185000, u185001, rfl, HA, HK1, HO_5, HO_185000, HO_185001, BK183, BK184, HB⟩ := hrel
   cases gk with
   | zero => exact absurd HA.out (by simp [spec_ParsePath.l0])
   | succ k1 =>
    have H := HA.out
    clear HA
    simp only [spec_ParsePath.l0] at H
    have HC14 := Aside0.mk H
    clear H
    go_upto_region 6 with (fail)
    repeat (go_quiet (fail); go_upto_region 6 with (fail))
    go_cut [32] (fun v32 wc => ∃ (kq : Nat) (x32_13 : Bool), v32 = .bool x32_13 ∧ Aside0 (spec_ParsePath.j1 kq a0 t185 x6_1 x32_13 x185000_1 x185001_1 = some (r1, r2, r3)) ∧ Aside0 (kq ≤ k1) ∧ Aside0 (Kd.R Kd.string 9 wc w.heap.size (fun _ => True) v186 t185) ∧ Aside0 (Kd.R (Kd.int .i64) 3 wc w.heap.size (fun _ => True) u185000 x185000_1) ∧ Aside0 (Kd.R k55 55 wc w.heap.size (fun _ => True) u185001 x185001_1) ∧ Aside0 (wc.heap[gb183]? = some (.cells #[(.slice none 0 0), (.slice none 0 0)] 37 (0, 0))) ∧ Aside0 (wc.heap[gb184]? = some (.cells #[u185000, u185001] 37 (0, 0))) ∧ Aside0 (Below w.heap.size w wc))
    case first =>
     have H := HC14.out
     clear HC14
     by_cases c15 : x6_1 < (t185.length : Int)
     ·rw [if_pos c15] at H
      have c15b0 : decide (x6_1 < (t185.length : Int)) = true := decide_eq_true c15
      clear c15
      (first | rw [c15b0] | (simp only [i64_w, i32_w]; rw [c15b0]) | skip)
      have H' := Aside0.mk H
      clear H
      obtain ⟨Ao16, co16, eo16⟩ := Kd.R_slice HO_5.out
      subst eo16
      have hnb17 := NB184_183.out
      have hnc17 := NB183_184.out
      have hcz18_0 : wr.cell? ⟨gb184, 0, none⟩ = some (u185000) := (blk_cell BK184.out 0).trans rfl
      have hcz18_1 : wr.cell? ⟨gb184, 1, none⟩ = some (u185001) := (blk_cell BK184.out 1).trans rfl
      have hfz18_0 := blk_frozen BK184.out 0
      have hfz18_1 := blk_frozen BK184.out 1
      obtain ⟨Ao19, co19, eo19⟩ := Kd.R_slice HO_185000.out
      subst eo19
      go_wp2
      repeat (go_quiet (fail); try go_wp2)
      go_meet
      case rel => exact ⟨_, (decide ((x185000_1.length : Int) ≤ 24)), (by first | rfl | (simp; done) | (simp [*]; done)), H', ⟨by have := HK1.out; first | omega | exact Nat.le_refl _⟩, ⟨rr_ HO_5.out⟩, ⟨rr_ HO_185000.out⟩, ⟨rr_ HO_185001.out⟩, ⟨bk_ BK183.out⟩, ⟨bk_ BK184.out⟩, ⟨bS⟩⟩
     ·rw [if_neg c15] at H
      have c15b0 : decide (x6_1 < (t185.length : Int)) = false := decide_eq_false c15
      clear c15
      (first | rw [c15b0] | (simp only [i64_w, i32_w]; rw [c15b0]) | skip)
      have H' := Aside0.mk H
      clear H
      obtain ⟨Ao20, co20, eo20⟩ := Kd.R_slice HO_5.out
      subst eo20
      go_wp2
      repeat (go_quiet (fail); try go_wp2)
      go_meet
      case rel => exact ⟨_, (false), (by first | rfl | (simp; done) | (simp [*]; done)), H', ⟨by have := HK1.out; first | omega | exact Nat.le_refl _⟩, ⟨rr_ HO_5.out⟩, ⟨rr_ HO_185000.out⟩, ⟨rr_ HO_185001.out⟩, ⟨bk_ BK183.out⟩, ⟨bk_ BK184.out⟩, ⟨bS⟩⟩
    case rest =>
     clear HC14
     try clear c1
     try clear c2
     try clear c2b0
     try clear c2b1
     try clear p2
     try clear c5
     try clear c11
     try clear c15
     try clear c15b0
     try clear c17
     try clear hcz12_0
     try clear hcz12_1
     try clear hcz18_0
     try clear hcz18_1
     try clear hcz6_0
     try clear hcz6_1
     try clear hcz7_0
     try clear hcz7_1
     try clear hfz12_0
     try clear hfz12_1
     try clear hfz18_0
     try clear hfz18_1
     try clear hfz6_0
     try clear hfz6_1
     try clear hfz7_0
     try clear hfz7_1
     try clear p2
     obtain ⟨kq, x32_13, rfl, HA, HJ13, HO_5, HO_185000, HO_185001, BK183, BK184, HB⟩ := hcut
     cases kq with
     | zero => exact absurd HA.out (by simp [spec_ParsePath.j1])
     | succ kj13 =>
      have H := HA.out
      clear HA
      simp only [spec_ParsePath.j1] at H
      by_cases c21 : x32_13 = true
      ·subst c21
       have H1 : (spec_ParsePath.l1 kj13 a0 t185 x6_1 0 0 x185000_1 x185001_1) = some (r1, r2, r3) := by rw [if_pos rfl] at H; exact H
       clear H
       have H := H1
       clear H1
       have H' := Aside0.mk H
       clear H
       go_wp2
       repeat (go_quiet (fail); try go_wp2)
       go_loopg [7, 8] kj13 (fun kq v7 v8 w' => ∃ (x7_3 : Int) (x8_3 : Int), v7 = .int .i64 x7_3 ∧ v8 = .int .i64 x8_3 ∧ Aside0 (spec_ParsePath.l1 kq a0 t185 x6_1 x7_3 x8_3 x185000_1 x185001_1 = some (r1, r2, r3)) ∧ Aside0 (kq ≤ kj13) ∧ Aside0 (Kd.R Kd.string 9 w' w.heap.size (fun _ => True) v186 t185) ∧ Aside0 (Kd.R (Kd.int .i64) 3 w' w.heap.size (fun _ => True) u185000 x185000_1) ∧ Aside0 (Kd.R k55 55 w' w.heap.size (fun _ => True) u185001 x185001_1) ∧ Aside0 (w'.heap[gb183]? = some (.cells #[(.slice none 0 0), (.slice none 0 0)] 37 (0, 0))) ∧ Aside0 (w'.heap[gb184]? = some (.cells #[u185000, u185001] 37 (0, 0))) ∧ Aside0 (Below w.heap.size w w'))
       case atStart => exact ⟨(0), (0), (by first | rfl | (simp; done) | (simp [*]; done)), (by first | rfl | (simp; done) | (simp [*]; done)), H', ⟨Nat.le_refl _⟩, ⟨rr_ HO_5.out⟩, ⟨rr_ HO_185000.out⟩, ⟨rr_ HO_185001.out⟩, ⟨bk_ BK183.out⟩, ⟨bk_ BK184.out⟩, ⟨bS⟩⟩
       case round =>
        clear H'
        try clear c1
        try clear c2
        try clear c2b0
        try clear c2b1
        try clear p2
        try clear c5
        try clear c11
        try clear c15
        try clear c15b0
        try clear c17
        try clear c21
        try clear hcz12_0
        try clear hcz12_1
        try clear hcz18_0
        try clear hcz18_1
        try clear hcz6_0
        try clear hcz6_1
        try clear hcz7_0
        try clear hcz7_1
        try clear hfz12_0
        try clear hfz12_1
        try clear hfz18_0
        try clear hfz18_1
        try clear hfz6_0
        try clear hfz6_1
        try clear hfz7_0
        try clear hfz7_1
        try clear p2
        obtain ⟨x7_3, x8_3, rfl, rfl, HA, HK3, HO_5, HO_185000, HO_185001, BK183, BK184, HB⟩ := hrel
        cases gk with
        | zero => exact absurd HA.out (by simp [spec_ParsePath.l1])
        | succ k3 =>
         have H := HA.out
         clear HA
         simp only [spec_ParsePath.l1] at H
         by_cases c22 : x8_3 < 5
         ·rw [if_pos c22] at H
          have c22b0 : decide (x8_3 < 5) = true := decide_eq_true c22
          clear c22
          by_cases c23 : 0 ≤ x6_1
          ·rw [if_pos c23] at H
           have c23b0 : decide (0 ≤ x6_1) = true := decide_eq_true c23
           clear c23
           by_cases c24 : x6_1 < (t185.length : Int)
           ·rw [if_pos c24] at H
            have c24b0 : decide (x6_1 < (t185.length : Int)) = true := decide_eq_true c24
            clear c24
            by_cases c25 : 0 ≤ x8_3
            ·rw [if_pos c25] at H
             have c25b0 := eq_true c25
             have c25b1 : decide (0 ≤ x8_3) = true := decide_eq_true c25
             clear c25
             by_cases c26 : x8_3 ≤ (wrap64 (x8_3 + 1))
             ·rw [if_pos c26] at H
              have c26b0 := eq_true c26
              have c26b1 : decide (x8_3 ≤ (wrap64 (x8_3 + 1))) = true := decide_eq_true c26
              by_cases c27 : (wrap64 (x8_3 + 1)) ≤ 5
              ·rw [if_pos c27] at H
               have c27b0 := eq_true c27
               have c27b1 : decide ((wrap64 (x8_3 + 1)) ≤ 5) = true := decide_eq_true c27
               by_cases c28 : (rdOf ByteArray.empty t185 x6_1).toList = ((⟨#[77, 76, 81, 67, 90]⟩ : ByteArray).extract (x8_3 : Int).toNat ((wrap64 (x8_3 + 1)) : Int).toNat).toList
               ·rw [if_pos c28] at H
                have c28b0 : ((rdOf ByteArray.empty t185 x6_1).toList == ((⟨#[77, 76, 81, 67, 90]⟩ : ByteArray).extract (x8_3 : Int).toNat ((wrap64 (x8_3 + 1)) : Int).toNat).toList) = true := beq_iff_eq.mpr c28
                have c28b1 : ((rdOf ByteArray.empty t185 x6_1).toList != ((⟨#[77, 76, 81, 67, 90]⟩ : ByteArray).extract (x8_3 : Int).toNat ((wrap64 (x8_3 + 1)) : Int).toNat).toList) = false := bne_eq_false_iff_eq.mpr c28
                clear c28
                have H' := Aside0.mk H
                clear H
                obtain ⟨Ao29, co29, eo29⟩ := Kd.R_slice HO_5.out
                subst eo29
                have p190 : 0 ≤ (x6_1 : Int) := of_decide_eq_true as_
                have q190 : x6_1 < (t185.length : Int) := of_decide_eq_true as_
                obtain ⟨ad190, e190, hx190_0⟩ := Kd.at_string (Kd.R_reads' HO_5.out).2.2 x6_1 p190 q190
                cases e190
                replace p190 := eq_true p190
                replace q190 := eq_true q190
                go_wp2
                repeat (go_quiet (fail); try go_wp2)
                go_roundg k3
                case measure => have := HK1.out; have := HJ13.out; have := HK3.out; omega
                case rel => exact ⟨(wrap64 (x8_3 + 1)), (wrap64 (x8_3 + 1)), (by first | rfl | (simp; done) | (simp [*]; done)), (by first | rfl | (simp; done) | (simp [*]; done)), H', ⟨by have := HK1.out; have := HJ13.out; have := HK3.out; omega⟩, ⟨rr_ HO_5.out⟩, ⟨rr_ HO_185000.out⟩, ⟨rr_ HO_185001.out⟩, ⟨bk_ BK183.out⟩, ⟨bk_ BK184.out⟩, ⟨bS⟩⟩
               ·rw [if_neg c28] at H
                have c28b0 : ((rdOf ByteArray.empty t185 x6_1).toList == ((⟨#[77, 76, 81, 67, 90]⟩ : ByteArray).extract (x8_3 : Int).toNat ((wrap64 (x8_3 + 1)) : Int).toNat).toList) = false := beq_eq_false_iff_ne.mpr c28
                have c28b1 : ((rdOf ByteArray.empty t185 x6_1).toList != ((⟨#[77, 76, 81, 67, 90]⟩ : ByteArray).extract (x8_3 : Int).toNat ((wrap64 (x8_3 + 1)) : Int).toNat).toList) = true := bne_iff_ne.mpr c28
                have H' := Aside0.mk H
                clear H
                obtain ⟨Ao30, co30, eo30⟩ := Kd.R_slice HO_5.out
                subst eo30
                have p190 : 0 ≤ (x6_1 : Int) := of_decide_eq_true as_
                have q190 : x6_1 < (t185.length : Int) := of_decide_eq_true as_
                obtain ⟨ad190, e190, hx190_0⟩ := Kd.at_string (Kd.R_reads' HO_5.out).2.2 x6_1 p190 q190
                cases e190
                replace p190 := eq_true p190
                replace q190 := eq_true q190
                go_wp2
                repeat (go_quiet (fail); try go_wp2)
                go_roundg k3
                case measure => have := HK1.out; have := HJ13.out; have := HK3.out; omega
                case rel => exact ⟨(x7_3), (wrap64 (x8_3 + 1)), (by first | rfl | (simp; done) | (simp [*]; done)), (by first | rfl | (simp; done) | (simp [*]; done)), H', ⟨by have := HK1.out; have := HJ13.out; have := HK3.out; omega⟩, ⟨rr_ HO_5.out⟩, ⟨rr_ HO_185000.out⟩, ⟨rr_ HO_185001.out⟩, ⟨bk_ BK183.out⟩, ⟨bk_ BK184.out⟩, ⟨bS⟩⟩
              ·rw [if_neg c27] at H
               exact absurd H (by simp)
             ·rw [if_neg c26] at H
              exact absurd H (by simp)
            ·rw [if_neg c25] at H
             exact absurd H (by simp)
           ·rw [if_neg c24] at H
            exact absurd H (by simp)
          ·rw [if_neg c23] at H
           exact absurd H (by simp)
         ·rw [if_neg c22] at H
          have c22b0 : decide (x8_3 < 5) = false := decide_eq_false c22
          clear c22
          replace H := Option.bind_eq_some_iff.mp H
          obtain ⟨t191, A310, H⟩ := H
          try dsimp only at H
          have A31 := Aside0.mk A310
          clear A310
          have HC32 := Aside0.mk H
          clear H
          go_upto_region 14 with (first | (go_at_call 32; (with_reducible refine (spec_NeedOf.calls x7_3 t191 _ A31.out).mono ?_); rintro e w33 ⟨rfl, hb⟩; replace HO_5 := Aside0.mk (Kd.R_below (rr_ HO_5.out) hb); replace HO_185000 := Aside0.mk (Kd.R_below (rr_ HO_185000.out) hb); replace HO_185001 := Aside0.mk (Kd.R_below (rr_ HO_185001.out) hb); replace BK183 := Aside0.mk (blk_below (bk_ BK183.out) hb); replace BK184 := Aside0.mk (blk_below (bk_ BK184.out) hb); replace HB := Aside0.mk (below_step bS hb); (try clear hb)))
          repeat (go_quiet (first | (go_at_call 32; (with_reducible refine (spec_NeedOf.calls x7_3 t191 _ A31.out).mono ?_); rintro e w33 ⟨rfl, hb⟩; replace HO_5 := Aside0.mk (Kd.R_below (rr_ HO_5.out) hb); replace HO_185000 := Aside0.mk (Kd.R_below (rr_ HO_185000.out) hb); replace HO_185001 := Aside0.mk (Kd.R_below (rr_ HO_185001.out) hb); replace BK183 := Aside0.mk (blk_below (bk_ BK183.out) hb); replace BK184 := Aside0.mk (blk_below (bk_ BK184.out) hb); replace HB := Aside0.mk (below_step bS hb); (try clear hb))); go_upto_region 14 with (first | (go_at_call 32; (with_reducible refine (spec_NeedOf.calls x7_3 t191 _ A31.out).mono ?_); rintro e w33 ⟨rfl, hb⟩; replace HO_5 := Aside0.mk (Kd.R_below (rr_ HO_5.out) hb); replace HO_185000 := Aside0.mk (Kd.R_below (rr_ HO_185000.out) hb); replace HO_185001 := Aside0.mk (Kd.R_below (rr_ HO_185001.out) hb); replace BK183 := Aside0.mk (blk_below (bk_ BK183.out) hb); replace BK184 := Aside0.mk (blk_below (bk_ BK184.out) hb); replace HB := Aside0.mk (below_step bS hb); (try clear hb))))
          (try simp only [PQ])
          go_cut [60] (fun v60 wc => ∃ (kq : Nat) (x60_31 : Bool), v60 = .bool x60_31 ∧ Aside0 (spec_ParsePath.j3 kq a0 t185 x6_1 x7_3 t191 x60_31 x185000_1 x185001_1 = some (r1, r2, r3)) ∧ Aside0 (kq ≤ k3) ∧ Aside0 (Kd.R Kd.string 9 wc w.heap.size (fun _ => True) v186 t185) ∧ Aside0 (Kd.R (Kd.int .i64) 3 wc w.heap.size (fun _ => True) u185000 x185000_1) ∧ Aside0 (Kd.R k55 55 wc w.heap.size (fun _ => True) u185001 x185001_1) ∧ Aside0 (wc.heap[gb183]? = some (.cells #[(.slice none 0 0), (.slice none 0 0)] 37 (0, 0))) ∧ Aside0 (wc.heap[gb184]? = some (.cells #[u185000, u185001] 37 (0, 0))) ∧ Aside0 (Below w.heap.size w wc))
          case first =>
           have H := HC32.out
           clear HC32
           by_cases c34 : t191 < 0
           ·rw [if_pos c34] at H
            have c34b0 : decide (t191 < 0) = true := decide_eq_true c34
            clear c34
            (first | rw [c34b0] | (simp only [i64_w, i32_w]; rw [c34b0]) | skip)
            have H' := Aside0.mk H
            clear H
            go_wp2
            repeat (go_quiet (fail); try go_wp2)
            go_meet
            case rel => exact ⟨_, (true), (by first | rfl | (simp; done) | (simp [*]; done)), H', ⟨by have := HK1.out; have := HJ13.out; have := HK3.out; first | omega | exact Nat.le_refl _⟩, ⟨rr_ HO_5.out⟩, ⟨rr_ HO_185000.out⟩, ⟨rr_ HO_185001.out⟩, ⟨bk_ BK183.out⟩, ⟨bk_ BK184.out⟩, ⟨bS⟩⟩
           ·rw [if_neg c34] at H
            have c34b0 : decide (t191 < 0) = false := decide_eq_false c34
            clear c34
            (first | rw [c34b0] | (simp only [i64_w, i32_w]; rw [c34b0]) | skip)
            have H' := Aside0.mk H
            clear H
            obtain ⟨Ao35, co35, eo35⟩ := Kd.R_slice HO_5.out
            subst eo35
            go_wp2
            repeat (go_quiet (fail); try go_wp2)
            go_meet
            case rel => exact ⟨_, (decide ((wrap64 (x6_1 + (wrap64 (2 * t191)))) ≥ (t185.length : Int))), (by first | rfl | (simp; done) | (simp [*]; done)), H', ⟨by have := HK1.out; have := HJ13.out; have := HK3.out; first | omega | exact Nat.le_refl _⟩, ⟨rr_ HO_5.out⟩, ⟨rr_ HO_185000.out⟩, ⟨rr_ HO_185001.out⟩, ⟨bk_ BK183.out⟩, ⟨bk_ BK184.out⟩, ⟨bS⟩⟩
          case rest =>
           clear HC32
           try clear c1
           try clear p1
           try clear q1
           try clear hx1
           try clear c2
           try clear c2b0
           try clear c2b1
           try clear p2
           try clear c3
           try clear c5
           try clear p6
           try clear c11
           try clear c15
           try clear c15b0
           try clear c17
           try clear p19
           try clear q19
           try clear hx19
           try clear c21
           try clear c22
           try clear c22b0
           try clear c23
           try clear c23b0
           try clear c24
           try clear c24b0
           try clear c25
           try clear c25b0
           try clear c25b1
           try clear c26
           try clear c26b0
           try clear c26b1
           try clear c27
           try clear c27b0
           try clear c27b1
           try clear c28
           try clear c28b0
           try clear c28b1
           try clear c34
           try clear c34b0
           try clear hcz12_0
           try clear hcz12_1
           try clear hcz18_0
           try clear hcz18_1
           try clear hcz6_0
           try clear hcz6_1
           try clear hcz7_0
           try clear hcz7_1
           try clear hfz12_0
           try clear hfz12_1
           try clear hfz18_0
           try clear hfz18_1
           try clear hfz6_0
           try clear hfz6_1
           try clear hfz7_0
           try clear hfz7_1
           try clear hx190_0
           try clear p190
           try clear p2
           try clear q190
           obtain ⟨kq, x60_31, rfl, HA, HJ31, HO_5, HO_185000, HO_185001, BK183, BK184, HB⟩ := hcut
           cases kq with
           | zero => exact absurd HA.out (by simp [spec_ParsePath.j3])
           | succ kj31 =>
            have H := HA.out
            clear HA
            simp only [spec_ParsePath.j3] at H
            by_cases c36 : x60_31 = true
            ·subst c36
             have H1 : (some (([] : List Int), ([] : List (S55)), false)) = some (r1, r2, r3) := by rw [if_pos rfl] at H; exact H
             clear H
             have H := H1
             clear H1
             simp only [Option.some.injEq, Prod.mk.injEq] at H
             obtain ⟨rfl, rfl, rfl⟩ := H
             have hnb37 := NB183_184.out
             have hnc37 := NB184_183.out
             have hcz38_0 : wc.cell? ⟨gb183, 0, none⟩ = some (.slice none 0 0) := (blk_cell BK183.out 0).trans rfl
             have hcz38_1 : wc.cell? ⟨gb183, 1, none⟩ = some (.slice none 0 0) := (blk_cell BK183.out 1).trans rfl
             have hfz38_0 := blk_frozen BK183.out 0
             have hfz38_1 := blk_frozen BK183.out 1
             go_wp2
             repeat (go_quiet (fail); try go_wp2)
             refine bodyPost_ret (results_ct rfl _ _ gb183 37 #[.slice none 0 0, .slice none 0 0] (0, 0) _ rfl (by refine bk_ ?_; refine blk_put (cs := #[.slice none 0 0, .slice none 0 0]) ?_ 1 _ rfl; refine bk_ ?_; refine blk_put (cs := #[.slice none 0 0, .slice none 0 0]) ?_ 0 _ rfl; exact bk_ BK183.out) Tryd.underlying37 rfl (by kernel_rfl)) rfl ?_
             exact ⟨_, _, by first | rfl | (simp [errW_none, errW_some] <;> rfl) | (simp [*, errW_none, errW_some] <;> rfl), by first | exact Kd.R_nil _ _ _ _ _ | exact Kd.N_nil _ _ _ _ _ | exact Kd.V_nil _ _ _ _ _ | exact Kd.Q_nil _ _ _ _ _ | exact Kd.S_nil _ _ _ _ _, by first | exact Kd.R_nil _ _ _ _ _ | exact Kd.N_nil _ _ _ _ _ | exact Kd.V_nil _ _ _ _ _ | exact Kd.Q_nil _ _ _ _ _ | exact Kd.S_nil _ _ _ _ _, by exact bS⟩
            ·replace c36 := Bool.eq_false_iff.mpr c36
             subst c36
             have H1 : (if x185000_1.length < 17592186044416 then (spec_ParsePath.l2 kj31 a0 t185 x6_1 t191 0 (x185000_1 ++ [x7_3]) x185001_1) else (none)) = some (r1, r2, r3) := by rw [if_neg (show ¬ (false = true) by decide)] at H; exact H
             clear H
             have H := H1
             clear H1
             by_cases c39 : x185000_1.length < 17592186044416
             ·rw [if_pos c39] at H
              have LMc39 := Aside0.mk c39
              clear c39
              obtain ⟨y192, hy192⟩ : ∃ y_ : List Int, y_ = (x185000_1 ++ [x7_3]) := ⟨_, rfl⟩
              replace H : (spec_ParsePath.l2 kj31 a0 t185 x6_1 t191 0 y192 x185001_1) = some (r1, r2, r3) := by first | (rw [hy192]; with_reducible exact H) | (have H2_ := (Option.bind_some _ _).symm.trans H; rw [hy192]; with_reducible exact H2_) | (have H2_ := (Option.bind_some _ _).symm.trans H; with_reducible exact H2_) | with_reducible exact H | (rw [hy192]; exact H) | exact H
              have Ny192 := Aside0.mk hy192
              clear hy192
              have H' := Aside0.mk H
              clear H
              have hnb40 := NB184_183.out
              have hnc40 := NB183_184.out
              have hcz41_0 : wc.cell? ⟨gb184, 0, none⟩ = some (u185000) := (blk_cell BK184.out 0).trans rfl
              have hcz41_1 : wc.cell? ⟨gb184, 1, none⟩ = some (u185001) := (blk_cell BK184.out 1).trans rfl
              have hfz41_0 := blk_frozen BK184.out 0
              have hfz41_1 := blk_frozen BK184.out 1
              go_wp2_with (first | ((with_reducible refine gate_builtin (b := .append) (xs := #[.tmp 63, .tmp 65]) rfl ?_); (try (refine gate_guard (by rfl) ?_; dsimp only)); at_builtin; refine Kd.R_append (Kd.int .i64) (w0 := w) w.heap.size rfl (.tmp 63) (.tmp 65) 28 3 (.int .i64 0) 8 rfl Tryd.underlying28 info3 rfl (by decide) (by omega) u185000 x185000_1 x7_3 [.int .i64 x7_3] (fun _ => True) (fun _ => False) rfl rfl ?aP (fun _ hk => hk.elim) ?aF ?aO ?aB ?aS ?aL ?_; (case aP => exact rfl); (case aB => exact bS); (case aF => exact (fun _ _ => trivial)); (case aO => exact (rr_ HO_185000.out)); (case aS => exact (below_size bS)); (case aL => have := LMc39.out; omega); intro v193 w42 ho hb hg hat; rw [← Ny192.out] at ho; have n0_ := Aside0.mk (Kd.R_over' (rr_ HO_5.out) (Kd.R_typed (rr_ HO_185000.out)) (by decide) hg); have n1_ := Aside0.mk (Kd.R_over' (rr_ HO_185001.out) (Kd.R_typed (rr_ HO_185000.out)) (by decide) hg); have n2_ := Aside0.mk (blk_grown (bk_ BK183.out) hg (Kd.R_ne HO_185000.out BK183.out (by decide))); have n3_ := Aside0.mk (blk_grown (bk_ BK184.out) hg (Kd.R_ne HO_185000.out BK184.out (by decide))); have n4_ := Aside0.mk (hb); have n5_ := Aside0.mk (ho); clear HO_5; clear HO_185001; clear BK183; clear BK184; clear HB; clear HO_185000; have HO_5 := n0_; have HO_185001 := n1_; have BK183 := n2_; have BK184 := n3_; have HB := n4_; have HO194 := n5_; clear n0_ n1_ n2_ n3_ n4_ n5_; clear ho hb hg hat; obtain ⟨Ao43, co43, eo43⟩ := Kd.R_slice HO194.out; subst eo43; have hcz44_0 : w42.cell? ⟨gb184, 0, none⟩ = some (u185000) := (blk_cell BK184.out 0).trans rfl; have hcz44_1 : w42.cell? ⟨gb184, 1, none⟩ = some (u185001) := (blk_cell BK184.out 1).trans rfl; have hfz44_0 := blk_frozen BK184.out 0; have hfz44_1 := blk_frozen BK184.out 1))
              repeat (go_quiet (first | ((with_reducible refine gate_builtin (b := .append) (xs := #[.tmp 63, .tmp 65]) rfl ?_); (try (refine gate_guard (by rfl) ?_; dsimp only)); at_builtin; refine Kd.R_append (Kd.int .i64) (w0 := w) w.heap.size rfl (.tmp 63) (.tmp 65) 28 3 (.int .i64 0) 8 rfl Tryd.underlying28 info3 rfl (by decide) (by omega) u185000 x185000_1 x7_3 [.int .i64 x7_3] (fun _ => True) (fun _ => False) rfl rfl ?aP (fun _ hk => hk.elim) ?aF ?aO ?aB ?aS ?aL ?_; (case aP => exact rfl); (case aB => exact bS); (case aF => exact (fun _ _ => trivial)); (case aO => exact (rr_ HO_185000.out)); (case aS => exact (below_size bS)); (case aL => have := LMc39.out; omega); intro v193 w42 ho hb hg hat; rw [← Ny192.out] at ho; have n0_ := Aside0.mk (Kd.R_over' (rr_ HO_5.out) (Kd.R_typed (rr_ HO_185000.out)) (by decide) hg); have n1_ := Aside0.mk (Kd.R_over' (rr_ HO_185001.out) (Kd.R_typed (rr_ HO_185000.out)) (by decide) hg); have n2_ := Aside0.mk (blk_grown (bk_ BK183.out) hg (Kd.R_ne HO_185000.out BK183.out (by decide))); have n3_ := Aside0.mk (blk_grown (bk_ BK184.out) hg (Kd.R_ne HO_185000.out BK184.out (by decide))); have n4_ := Aside0.mk (hb); have n5_ := Aside0.mk (ho); clear HO_5; clear HO_185001; clear BK183; clear BK184; clear HB; clear HO_185000; have HO_5 := n0_; have HO_185001 := n1_; have BK183 := n2_; have BK184 := n3_; have HB := n4_; have HO194 := n5_; clear n0_ n1_ n2_ n3_ n4_ n5_; clear ho hb hg hat; obtain ⟨Ao43, co43, eo43⟩ := Kd.R_slice HO194.out; subst eo43; have hcz44_0 : w42.cell? ⟨gb184, 0, none⟩ = some (u185000) := (blk_cell BK184.out 0).trans rfl; have hcz44_1 : w42.cell? ⟨gb184, 1, none⟩ = some (u185001) := (blk_cell BK184.out 1).trans rfl; have hfz44_0 := blk_frozen BK184.out 0; have hfz44_1 := blk_frozen BK184.out 1)); try go_wp2_with (first | ((with_reducible refine gate_builtin (b := .append) (xs := #[.tmp 63, .tmp 65]) rfl ?_); (try (refine gate_guard (by rfl) ?_; dsimp only)); at_builtin; refine Kd.R_append (Kd.int .i64) (w0 := w) w.heap.size rfl (.tmp 63) (.tmp 65) 28 3 (.int .i64 0) 8 rfl Tryd.underlying28 info3 rfl (by decide) (by omega) u185000 x185000_1 x7_3 [.int .i64 x7_3] (fun _ => True) (fun _ => False) rfl rfl ?aP (fun _ hk => hk.elim) ?aF ?aO ?aB ?aS ?aL ?_; (case aP => exact rfl); (case aB => exact bS); (case aF => exact (fun _ _ => trivial)); (case aO => exact (rr_ HO_185000.out)); (case aS => exact (below_size bS)); (case aL => have := LMc39.out; omega); intro v193 w42 ho hb hg hat; rw [← Ny192.out] at ho; have n0_ := Aside0.mk (Kd.R_over' (rr_ HO_5.out) (Kd.R_typed (rr_ HO_185000.out)) (by decide) hg); have n1_ := Aside0.mk (Kd.R_over' (rr_ HO_185001.out) (Kd.R_typed (rr_ HO_185000.out)) (by decide) hg); have n2_ := Aside0.mk (blk_grown (bk_ BK183.out) hg (Kd.R_ne HO_185000.out BK183.out (by decide))); have n3_ := Aside0.mk (blk_grown (bk_ BK184.out) hg (Kd.R_ne HO_185000.out BK184.out (by decide))); have n4_ := Aside0.mk (hb); have n5_ := Aside0.mk (ho); clear HO_5; clear HO_185001; clear BK183; clear BK184; clear HB; clear HO_185000; have HO_5 := n0_; have HO_185001 := n1_; have BK183 := n2_; have BK184 := n3_; have HB := n4_; have HO194 := n5_; clear n0_ n1_ n2_ n3_ n4_ n5_; clear ho hb hg hat; obtain ⟨Ao43, co43, eo43⟩ := Kd.R_slice HO194.out; subst eo43; have hcz44_0 : w42.cell? ⟨gb184, 0, none⟩ = some (u185000) := (blk_cell BK184.out 0).trans rfl; have hcz44_1 : w42.cell? ⟨gb184, 1, none⟩ = some (u185001) := (blk_cell BK184.out 1).trans rfl; have hfz44_0 := blk_frozen BK184.out 0; have hfz44_1 := blk_frozen BK184.out 1)))
              go_loopg [10] kj31 (fun kq v10 w' => ∃ (x10_5 : Int) (x185001_5 : List (S55)) (u185001 : Value), v10 = .int .i64 x10_5 ∧ Aside0 (spec_ParsePath.l2 kq a0 t185 x6_1 t191 x10_5 y192 x185001_5 = some (r1, r2, r3)) ∧ Aside0 (kq ≤ kj31) ∧ Aside0 (Kd.R Kd.string 9 w' w.heap.size (fun _ => True) v186 t185) ∧ Aside0 (Kd.R (Kd.int .i64) 3 w' w.heap.size (fun _ => True) (.slice Ao43 y192.length co43) y192) ∧ Aside0 (Kd.R k55 55 w' w.heap.size (fun _ => True) u185001 x185001_5) ∧ Aside0 (w'.heap[gb183]? = some (.cells #[(.slice none 0 0), (.slice none 0 0)] 37 (0, 0))) ∧ Aside0 (w'.heap[gb184]? = some (.cells #[(.slice Ao43 y192.length co43), u185001] 37 (0, 0))) ∧ Aside0 (Below w.heap.size w w'))
              case atStart => exact ⟨(0), (x185001_1), (u185001), (by first | rfl | (simp; done) | (simp [*]; done)), H', ⟨Nat.le_refl _⟩, ⟨by refine rr_ ?_; exact Kd.R_mono (Kd.R_far (p := ⟨gb184, 0, none⟩) (Kd.R_types HO_5.out BK184.out (by decide)) (fun _ hk => hk.2) (.slice Ao43 y192.length co43)) (fun _ hk => trivial)⟩, ⟨by refine rr_ ?_; exact Kd.R_mono (Kd.R_far (p := ⟨gb184, 0, none⟩) (Kd.R_types HO194.out BK184.out (by decide)) (fun _ hk => hk.2) (.slice Ao43 y192.length co43)) (fun _ hk => trivial)⟩, ⟨by refine rr_ ?_; exact Kd.R_mono (Kd.R_far (p := ⟨gb184, 0, none⟩) (Kd.R_types HO_185001.out BK184.out (by decide)) (fun _ hk => hk.2) (.slice Ao43 y192.length co43)) (fun _ hk => trivial)⟩, ⟨bf_ BK183.out⟩, ⟨by refine bk_ ?_; refine blk_put (cs := #[u185000, u185001]) ?_ 0 _ rfl; exact bk_ BK184.out⟩, ⟨bS⟩⟩
              case round =>
               clear H'
               try clear c1
               try clear p1
               try clear q1
               try clear hx1
               try clear c2
               try clear c2b0
               try clear c2b1
               try clear p2
               try clear c3
               try clear c4
               try clear c5
               try clear p6
               try clear c11
               try clear c15
               try clear c15b0
               try clear c17
               try clear p19
               try clear q19
               try clear hx19
               try clear c21
               try clear c22
               try clear c22b0
               try clear c23
               try clear c23b0
               try clear c24
               try clear c24b0
               try clear c25
               try clear c25b0
               try clear c25b1
               try clear c26
               try clear c26b0
               try clear c26b1
               try clear c27
               try clear c27b0
               try clear c27b1
               try clear c28
               try clear c28b0
               try clear c28b1
               try clear c34
               try clear c34b0
               try clear c36
               try clear c37
               try clear c39
               try clear c40
               try clear hcz12_0
               try clear hcz12_1
               try clear hcz18_0
               try clear hcz18_1
               try clear hcz38_0
               try clear hcz38_1
               try clear hcz41_0
               try clear hcz41_1
               try clear hcz44_0
               try clear hcz44_1
               try clear hcz6_0
               try clear hcz6_1
               try clear hcz7_0
               try clear hcz7_1
               try clear hfz12_0
               try clear hfz12_1
               try clear hfz18_0
               try clear hfz18_1
               try clear hfz38_0
               try clear hfz38_1
               try clear hfz41_0
               try clear hfz41_1
               try clear hfz44_0
               try clear hfz44_1
               try clear hfz6_0
               try clear hfz6_1
               try clear hfz7_0
               try clear hfz7_1
               try clear hx190_0
               try clear p1
               try clear p19
               try clear p190
               try clear p2
               try clear p6
               try clear q1
               try clear q19
               try clear q190
               obtain ⟨x10_5, x185001_5, u185001, rfl, HA, HK5, HO_5, HO_185000, HO_185001, BK183, BK184, HB⟩ := hrel
               cases gk with
               | zero => exact absurd HA.out (by simp [spec_ParsePath.l2])
               | succ k5 =>
                have H := HA.out
                clear HA
                simp only [spec_ParsePath.l2] at H
                by_cases c45 : x10_5 < t191
                ·rw [if_pos c45] at H
                 have c45b0 : decide (x10_5 < t191) = true := decide_eq_true c45
                 clear c45
                 obtain ⟨ji46, hji46⟩ : ∃ j_ : Int, (wrap64 ((wrap64 (x6_1 + 1)) + (wrap64 (2 * x10_5)))) = j_ := ⟨_, rfl⟩
                 replace H : (if 0 ≤ (ji46) then (if (ji46) < (t185.length : Int) then ((spec_l06Signed.f k5 (rdOf ByteArray.empty t185 (ji46))).bind fun bt196 => (if 0 ≤ (wrap64 ((wrap64 (x6_1 + 2)) + (wrap64 (2 * x10_5)))) then (if (wrap64 ((wrap64 (x6_1 + 2)) + (wrap64 (2 * x10_5)))) < (t185.length : Int) then ((spec_l06Signed.f k5 (rdOf ByteArray.empty t185 (wrap64 ((wrap64 (x6_1 + 2)) + (wrap64 (2 * x10_5)))))).bind fun bt199 => (if bt196.2 = true then (if bt199.2 = true then (if x185001_5.length < 8796093022208 then (spec_ParsePath.l2 k5 a0 t185 x6_1 t191 (wrap64 (x10_5 + 1)) y192 (x185001_5 ++ [(⟨bt196.1, bt199.1⟩ : S55)])) else (none)) else (some (([] : List Int), ([] : List (S55)), false))) else (some (([] : List Int), ([] : List (S55)), false)))) else (none)) else (none))) else (none)) else (none)) = some (r1, r2, r3) := by first | (rw [hji46] at H; exact H) | (simp only [hji46] at H ⊢; exact H)
                 have hji46w : (IntKind.i64.wrap ((wrap64 (x6_1 + 1)) + (wrap64 (2 * x10_5)))) = ji46 := (i64_w _).trans hji46
                 by_cases c47 : 0 ≤ (ji46)
                 ·rw [if_pos c47] at H
                  have c47b0 : decide (0 ≤ (ji46)) = true := decide_eq_true c47
                  clear c47
                  by_cases c48 : (ji46) < (t185.length : Int)
                  ·rw [if_pos c48] at H
                   have c48b0 : decide ((ji46) < (t185.length : Int)) = true := decide_eq_true c48
                   clear c48
                   replace H := Option.bind_eq_some_iff.mp H
                   obtain ⟨⟨t196, t197⟩, A490, H⟩ := H
                   try dsimp only at H
                   have A49 := Aside0.mk A490
                   clear A490
                   obtain ⟨ji50, hji50⟩ : ∃ j_ : Int, (wrap64 ((wrap64 (x6_1 + 2)) + (wrap64 (2 * x10_5)))) = j_ := ⟨_, rfl⟩
                   replace H : (if 0 ≤ (ji50) then (if (ji50) < (t185.length : Int) then ((spec_l06Signed.f k5 (rdOf ByteArray.empty t185 (ji50))).bind fun bt199 => (if t197 = true then (if bt199.2 = true then (if x185001_5.length < 8796093022208 then (spec_ParsePath.l2 k5 a0 t185 x6_1 t191 (wrap64 (x10_5 + 1)) y192 (x185001_5 ++ [(⟨t196, bt199.1⟩ : S55)])) else (none)) else (some (([] : List Int), ([] : List (S55)), false))) else (some (([] : List Int), ([] : List (S55)), false)))) else (none)) else (none)) = some (r1, r2, r3) := by first | (rw [hji50] at H; exact H) | (simp only [hji50] at H ⊢; exact H)
                   (try rw [hji50] at A49)
                   have hji50w : (IntKind.i64.wrap ((wrap64 (x6_1 + 2)) + (wrap64 (2 * x10_5)))) = ji50 := (i64_w _).trans hji50
                   by_cases c51 : 0 ≤ (ji50)
                   ·rw [if_pos c51] at H
                    have c51b0 : decide (0 ≤ (ji50)) = true := decide_eq_true c51
                    clear c51
                    by_cases c52 : (ji50) < (t185.length : Int)
                    ·rw [if_pos c52] at H
                     have c52b0 : decide ((ji50) < (t185.length : Int)) = true := decide_eq_true c52
                     clear c52
                     replace H := Option.bind_eq_some_iff.mp H
                     obtain ⟨⟨t199, t200⟩, A530, H⟩ := H
                     try dsimp only at H
                     have A53 := Aside0.mk A530
                     clear A530
                     by_cases c54 : t197 = true
                     ·subst c54
                      have H1 : (if t200 = true then (if x185001_5.length < 8796093022208 then (spec_ParsePath.l2 k5 a0 t185 x6_1 t191 (wrap64 (x10_5 + 1)) y192 (x185001_5 ++ [(⟨t196, t199⟩ : S55)])) else (none)) else (some (([] : List Int), ([] : List (S55)), false))) = some (r1, r2, r3) := by rw [if_pos rfl] at H; exact H
                      clear H
                      have H := H1
                      clear H1
                      by_cases c55 : t200 = true
                      ·subst c55
                       have H1 : (if x185001_5.length < 8796093022208 then (spec_ParsePath.l2 k5 a0 t185 x6_1 t191 (wrap64 (x10_5 + 1)) y192 (x185001_5 ++ [(⟨t196, t199⟩ : S55)])) else (none)) = some (r1, r2, r3) := by rw [if_pos rfl] at H; exact H
                       clear H
                       have H := H1
                       clear H1
                       by_cases c56 : x185001_5.length < 8796093022208
                       ·rw [if_pos c56] at H
                        have LMc56 := Aside0.mk c56
                        clear c56
                        obtain ⟨y201, hy201⟩ : ∃ y_ : List (S55), y_ = (x185001_5 ++ [(⟨t196, t199⟩ : S55)]) := ⟨_, rfl⟩
                        replace H : (spec_ParsePath.l2 k5 a0 t185 x6_1 t191 (wrap64 (x10_5 + 1)) y192 y201) = some (r1, r2, r3) := by first | (rw [hy201]; with_reducible exact H) | (have H2_ := (Option.bind_some _ _).symm.trans H; rw [hy201]; with_reducible exact H2_) | (have H2_ := (Option.bind_some _ _).symm.trans H; with_reducible exact H2_) | with_reducible exact H | (rw [hy201]; exact H) | exact H
                        have Ny201 := Aside0.mk hy201
                        clear hy201
                        have H' := Aside0.mk H
                        clear H
                        obtain ⟨Ao57, co57, eo57⟩ := Kd.R_slice HO_5.out
                        subst eo57
                        have p195 : 0 ≤ ((ji46) : Int) := of_decide_eq_true as_
                        have q195 : (ji46) < (t185.length : Int) := of_decide_eq_true as_
                        obtain ⟨ad195, e195, hx195_0⟩ := Kd.at_string (Kd.R_reads' HO_5.out).2.2 (ji46) p195 q195
                        cases e195
                        replace p195 := eq_true p195
                        replace q195 := eq_true q195
                        go_wp2_with (first | (go_at_call 41; (with_reducible refine (spec_l06Signed.calls k5 (rdOf ByteArray.empty t185 (ji46)) t196 true _ A49.out).mono ?_); rintro e w58 ⟨rfl, hb⟩; replace HO_5 := Aside0.mk (Kd.R_below (rr_ HO_5.out) hb); replace HO_185000 := Aside0.mk (Kd.R_below (rr_ HO_185000.out) hb); replace HO_185001 := Aside0.mk (Kd.R_below (rr_ HO_185001.out) hb); replace BK183 := Aside0.mk (blk_below (bk_ BK183.out) hb); replace BK184 := Aside0.mk (blk_below (bk_ BK184.out) hb); replace HB := Aside0.mk (below_step bS hb); (try clear hb); have p198 : 0 ≤ ((ji50) : Int) := of_decide_eq_true as_; have q198 : (ji50) < (t185.length : Int) := of_decide_eq_true as_; obtain ⟨ad198, e198, hx198_0⟩ := Kd.at_string (Kd.R_reads' HO_5.out).2.2 (ji50) p198 q198; obtain rfl : ad195 = ad198 := (by injection e198); replace p198 := eq_true p198; replace q198 := eq_true q198) | (go_at_call 41; (with_reducible refine (spec_l06Signed.calls k5 (rdOf ByteArray.empty t185 (ji50)) t199 true _ A53.out).mono ?_); rintro e w59 ⟨rfl, hb⟩; replace HO_5 := Aside0.mk (Kd.R_below (rr_ HO_5.out) hb); replace HO_185000 := Aside0.mk (Kd.R_below (rr_ HO_185000.out) hb); replace HO_185001 := Aside0.mk (Kd.R_below (rr_ HO_185001.out) hb); replace BK183 := Aside0.mk (blk_below (bk_ BK183.out) hb); replace BK184 := Aside0.mk (blk_below (bk_ BK184.out) hb); replace HB := Aside0.mk (below_step bS hb); (try clear hb); have hnb60 := NB184_183.out; have hnc60 := NB183_184.out; have hcz61_0 : w59.cell? ⟨gb184, 0, none⟩ = some (.slice Ao43 y192.length co43) := (blk_cell BK184.out 0).trans rfl; have hcz61_1 : w59.cell? ⟨gb184, 1, none⟩ = some (u185001) := (blk_cell BK184.out 1).trans rfl; have hfz61_0 := blk_frozen BK184.out 0; have hfz61_1 := blk_frozen BK184.out 1) | ((with_reducible refine gate_builtin (b := .append) (xs := #[.tmp 105, .tmp 109]) rfl ?_); (try (refine gate_guard (by rfl) ?_; dsimp only)); at_builtin; refine Kd.R_append k55 (w0 := w) w.heap.size rfl (.tmp 105) (.tmp 109) 35 55 (.agg #[(.int .i64 0), (.int .i64 0)]) 16 rfl Tryd.underlying35 info55 rfl (by decide) (by omega) u185001 x185001_5 (⟨t196, t199⟩ : S55) [.int .i64 t196, .int .i64 t199] (fun _ => True) (fun _ => False) rfl rfl ?aP (fun _ hk => hk.elim) ?aF ?aO ?aB ?aS ?aL ?_; (case aP => exact k55_mkM _ _ _ (⟨t196, t199⟩ : S55)); (case aB => exact bS); (case aF => exact (fun _ _ => trivial)); (case aO => exact (rr_ HO_185001.out)); (case aS => exact (below_size bS)); (case aL => have := LMc56.out; omega); intro v202 w62 ho hb hg hat; rw [← Ny201.out] at ho; have n0_ := Aside0.mk (Kd.R_over' (rr_ HO_5.out) (Kd.R_typed (rr_ HO_185001.out)) (by decide) hg); have n1_ := Aside0.mk (Kd.R_over' (rr_ HO_185000.out) (Kd.R_typed (rr_ HO_185001.out)) (by decide) hg); have n2_ := Aside0.mk (blk_grown (bk_ BK183.out) hg (Kd.R_ne HO_185001.out BK183.out (by decide))); have n3_ := Aside0.mk (blk_grown (bk_ BK184.out) hg (Kd.R_ne HO_185001.out BK184.out (by decide))); have n4_ := Aside0.mk (hb); have n5_ := Aside0.mk (ho); clear HO_5; clear HO_185000; clear BK183; clear BK184; clear HB; clear HO_185001; have HO_5 := n0_; have HO_185000 := n1_; have BK183 := n2_; have BK184 := n3_; have HB := n4_; have HO203 := n5_; clear n0_ n1_ n2_ n3_ n4_ n5_; clear ho hb hg hat; obtain ⟨Ao63, co63, eo63⟩ := Kd.R_slice HO203.out; subst eo63; have hcz64_0 : w62.cell? ⟨gb184, 0, none⟩ = some (.slice Ao43 y192.length co43) := (blk_cell BK184.out 0).trans rfl; have hcz64_1 : w62.cell? ⟨gb184, 1, none⟩ = some (u185001) := (blk_cell BK184.out 1).trans rfl; have hfz64_0 := blk_frozen BK184.out 0; have hfz64_1 := blk_frozen BK184.out 1))
                        repeat (go_quiet (first | (go_at_call 41; (with_reducible refine (spec_l06Signed.calls k5 (rdOf ByteArray.empty t185 (ji46)) t196 true _ A49.out).mono ?_); rintro e w58 ⟨rfl, hb⟩; replace HO_5 := Aside0.mk (Kd.R_below (rr_ HO_5.out) hb); replace HO_185000 := Aside0.mk (Kd.R_below (rr_ HO_185000.out) hb); replace HO_185001 := Aside0.mk (Kd.R_below (rr_ HO_185001.out) hb); replace BK183 := Aside0.mk (blk_below (bk_ BK183.out) hb); replace BK184 := Aside0.mk (blk_below (bk_ BK184.out) hb); replace HB := Aside0.mk (below_step bS hb); (try clear hb); have p198 : 0 ≤ ((ji50) : Int) := of_decide_eq_true as_; have q198 : (ji50) < (t185.length : Int) := of_decide_eq_true as_; obtain ⟨ad198, e198, hx198_0⟩ := Kd.at_string (Kd.R_reads' HO_5.out).2.2 (ji50) p198 q198; obtain rfl : ad195 = ad198 := (by injection e198); replace p198 := eq_true p198; replace q198 := eq_true q198) | (go_at_call 41; (with_reducible refine (spec_l06Signed.calls k5 (rdOf ByteArray.empty t185 (ji50)) t199 true _ A53.out).mono ?_); rintro e w59 ⟨rfl, hb⟩; replace HO_5 := Aside0.mk (Kd.R_below (rr_ HO_5.out) hb); replace HO_185000 := Aside0.mk (Kd.R_below (rr_ HO_185000.out) hb); replace HO_185001 := Aside0.mk (Kd.R_below (rr_ HO_185001.out) hb); replace BK183 := Aside0.mk (blk_below (bk_ BK183.out) hb); replace BK184 := Aside0.mk (blk_below (bk_ BK184.out) hb); replace HB := Aside0.mk (below_step bS hb); (try clear hb); have hnb60 := NB184_183.out; have hnc60 := NB183_184.out; have hcz61_0 : w59.cell? ⟨gb184, 0, none⟩ = some (.slice Ao43 y192.length co43) := (blk_cell BK184.out 0).trans rfl; have hcz61_1 : w59.cell? ⟨gb184, 1, none⟩ = some (u185001) := (blk_cell BK184.out 1).trans rfl; have hfz61_0 := blk_frozen BK184.out 0; have hfz61_1 := blk_frozen BK184.out 1) | ((with_reducible refine gate_builtin (b := .append) (xs := #[.tmp 105, .tmp 109]) rfl ?_); (try (refine gate_guard (by rfl) ?_; dsimp only)); at_builtin; refine Kd.R_append k55 (w0 := w) w.heap.size rfl (.tmp 105) (.tmp 109) 35 55 (.agg #[(.int .i64 0), (.int .i64 0)]) 16 rfl Tryd.underlying35 info55 rfl (by decide) (by omega) u185001 x185001_5 (⟨t196, t199⟩ : S55) [.int .i64 t196, .int .i64 t199] (fun _ => True) (fun _ => False) rfl rfl ?aP (fun _ hk => hk.elim) ?aF ?aO ?aB ?aS ?aL ?_; (case aP => exact k55_mkM _ _ _ (⟨t196, t199⟩ : S55)); (case aB => exact bS); (case aF => exact (fun _ _ => trivial)); (case aO => exact (rr_ HO_185001.out)); (case aS => exact (below_size bS)); (case aL => have := LMc56.out; omega); intro v202 w62 ho hb hg hat; rw [← Ny201.out] at ho; have n0_ := Aside0.mk (Kd.R_over' (rr_ HO_5.out) (Kd.R_typed (rr_ HO_185001.out)) (by decide) hg); have n1_ := Aside0.mk (Kd.R_over' (rr_ HO_185000.out) (Kd.R_typed (rr_ HO_185001.out)) (by decide) hg); have n2_ := Aside0.mk (blk_grown (bk_ BK183.out) hg (Kd.R_ne HO_185001.out BK183.out (by decide))); have n3_ := Aside0.mk (blk_grown (bk_ BK184.out) hg (Kd.R_ne HO_185001.out BK184.out (by decide))); have n4_ := Aside0.mk (hb); have n5_ := Aside0.mk (ho); clear HO_5; clear HO_185000; clear BK183; clear BK184; clear HB; clear HO_185001; have HO_5 := n0_; have HO_185000 := n1_; have BK183 := n2_; have BK184 := n3_; have HB := n4_; have HO203 := n5_; clear n0_ n1_ n2_ n3_ n4_ n5_; clear ho hb hg hat; obtain ⟨Ao63, co63, eo63⟩ := Kd.R_slice HO203.out; subst eo63; have hcz64_0 : w62.cell? ⟨gb184, 0, none⟩ = some (.slice Ao43 y192.length co43) := (blk_cell BK184.out 0).trans rfl; have hcz64_1 : w62.cell? ⟨gb184, 1, none⟩ = some (u185001) := (blk_cell BK184.out 1).trans rfl; have hfz64_0 := blk_frozen BK184.out 0; have hfz64_1 := blk_frozen BK184.out 1)); try go_wp2_with (first | (go_at_call 41; (with_reducible refine (spec_l06Signed.calls k5 (rdOf ByteArray.empty t185 (ji46)) t196 true _ A49.out).mono ?_); rintro e w58 ⟨rfl, hb⟩; replace HO_5 := Aside0.mk (Kd.R_below (rr_ HO_5.out) hb); replace HO_185000 := Aside0.mk (Kd.R_below (rr_ HO_185000.out) hb); replace HO_185001 := Aside0.mk (Kd.R_below (rr_ HO_185001.out) hb); replace BK183 := Aside0.mk (blk_below (bk_ BK183.out) hb); replace BK184 := Aside0.mk (blk_below (bk_ BK184.out) hb); replace HB := Aside0.mk (below_step bS hb); (try clear hb); have p198 : 0 ≤ ((ji50) : Int) := of_decide_eq_true as_; have q198 : (ji50) < (t185.length : Int) := of_decide_eq_true as_; obtain ⟨ad198, e198, hx198_0⟩ := Kd.at_string (Kd.R_reads' HO_5.out).2.2 (ji50) p198 q198; obtain rfl : ad195 = ad198 := (by injection e198); replace p198 := eq_true p198; replace q198 := eq_true q198) | (go_at_call 41; (with_reducible refine (spec_l06Signed.calls k5 (rdOf ByteArray.empty t185 (ji50)) t199 true _ A53.out).mono ?_); rintro e w59 ⟨rfl, hb⟩; replace HO_5 := Aside0.mk (Kd.R_below (rr_ HO_5.out) hb); replace HO_185000 := Aside0.mk (Kd.R_below (rr_ HO_185000.out) hb); replace HO_185001 := Aside0.mk (Kd.R_below (rr_ HO_185001.out) hb); replace BK183 := Aside0.mk (blk_below (bk_ BK183.out) hb); replace BK184 := Aside0.mk (blk_below (bk_ BK184.out) hb); replace HB := Aside0.mk (below_step bS hb); (try clear hb); have hnb60 := NB184_183.out; have hnc60 := NB183_184.out; have hcz61_0 : w59.cell? ⟨gb184, 0, none⟩ = some (.slice Ao43 y192.length co43) := (blk_cell BK184.out 0).trans rfl; have hcz61_1 : w59.cell? ⟨gb184, 1, none⟩ = some (u185001) := (blk_cell BK184.out 1).trans rfl; have hfz61_0 := blk_frozen BK184.out 0; have hfz61_1 := blk_frozen BK184.out 1) | ((with_reducible refine gate_builtin (b := .append) (xs := #[.tmp 105, .tmp 109]) rfl ?_); (try (refine gate_guard (by rfl) ?_; dsimp only)); at_builtin; refine Kd.R_append k55 (w0 := w) w.heap.size rfl (.tmp 105) (.tmp 109) 35 55 (.agg #[(.int .i64 0), (.int .i64 0)]) 16 rfl Tryd.underlying35 info55 rfl (by decide) (by omega) u185001 x185001_5 (⟨t196, t199⟩ : S55) [.int .i64 t196, .int .i64 t199] (fun _ => True) (fun _ => False) rfl rfl ?aP (fun _ hk => hk.elim) ?aF ?aO ?aB ?aS ?aL ?_; (case aP => exact k55_mkM _ _ _ (⟨t196, t199⟩ : S55)); (case aB => exact bS); (case aF => exact (fun _ _ => trivial)); (case aO => exact (rr_ HO_185001.out)); (case aS => exact (below_size bS)); (case aL => have := LMc56.out; omega); intro v202 w62 ho hb hg hat; rw [← Ny201.out] at ho; have n0_ := Aside0.mk (Kd.R_over' (rr_ HO_5.out) (Kd.R_typed (rr_ HO_185001.out)) (by decide) hg); have n1_ := Aside0.mk (Kd.R_over' (rr_ HO_185000.out) (Kd.R_typed (rr_ HO_185001.out)) (by decide) hg); have n2_ := Aside0.mk (blk_grown (bk_ BK183.out) hg (Kd.R_ne HO_185001.out BK183.out (by decide))); have n3_ := Aside0.mk (blk_grown (bk_ BK184.out) hg (Kd.R_ne HO_185001.out BK184.out (by decide))); have n4_ := Aside0.mk (hb); have n5_ := Aside0.mk (ho); clear HO_5; clear HO_185000; clear BK183; clear BK184; clear HB; clear HO_185001; have HO_5 := n0_; have HO_185000 := n1_; have BK183 := n2_; have BK184 := n3_; have HB := n4_; have HO203 := n5_; clear n0_ n1_ n2_ n3_ n4_ n5_; clear ho hb hg hat; obtain ⟨Ao63, co63, eo63⟩ := Kd.R_slice HO203.out; subst eo63; have hcz64_0 : w62.cell? ⟨gb184, 0, none⟩ = some (.slice Ao43 y192.length co43) := (blk_cell BK184.out 0).trans rfl; have hcz64_1 : w62.cell? ⟨gb184, 1, none⟩ = some (u185001) := (blk_cell BK184.out 1).trans rfl; have hfz64_0 := blk_frozen BK184.out 0; have hfz64_1 := blk_frozen BK184.out 1)))
                        go_roundg k5
                        case measure => have := HK1.out; have := HJ13.out; have := HK3.out; have := HJ31.out; have := HK5.out; omega
                        case rel => exact ⟨(wrap64 (x10_5 + 1)), (y201), (.slice Ao63 y201.length co63), (by first | rfl | (simp; done) | (simp [*]; done)), H', ⟨by have := HK1.out; have := HJ13.out; have := HK3.out; have := HJ31.out; have := HK5.out; omega⟩, ⟨by refine rr_ ?_; exact Kd.R_mono (Kd.R_far (p := ⟨gb184, 1, none⟩) (Kd.R_types HO_5.out BK184.out (by decide)) (fun _ hk => hk.2) (.slice Ao63 y201.length co63)) (fun _ hk => trivial)⟩, ⟨by refine rr_ ?_; exact Kd.R_mono (Kd.R_far (p := ⟨gb184, 1, none⟩) (Kd.R_types HO_185000.out BK184.out (by decide)) (fun _ hk => hk.2) (.slice Ao63 y201.length co63)) (fun _ hk => trivial)⟩, ⟨by refine rr_ ?_; exact Kd.R_mono (Kd.R_far (p := ⟨gb184, 1, none⟩) (Kd.R_types HO203.out BK184.out (by decide)) (fun _ hk => hk.2) (.slice Ao63 y201.length co63)) (fun _ hk => trivial)⟩, ⟨bf_ BK183.out⟩, ⟨by refine bk_ ?_; refine blk_put (cs := #[.slice Ao43 y192.length co43, u185001]) ?_ 1 _ rfl; exact bk_ BK184.out⟩, ⟨bS⟩⟩
                       ·rw [if_neg c56] at H
                        exact absurd H (by simp)
                      ·replace c55 := Bool.eq_false_iff.mpr c55
                       subst c55
                       have H1 : (some (([] : List Int), ([] : List (S55)), false)) = some (r1, r2, r3) := by rw [if_neg (show ¬ (false = true) by decide)] at H; exact H
                       clear H
                       have H := H1
                       clear H1
                       simp only [Option.some.injEq, Prod.mk.injEq] at H
                       obtain ⟨rfl, rfl, rfl⟩ := H
                       obtain ⟨Ao65, co65, eo65⟩ := Kd.R_slice HO_5.out
                       subst eo65
                       have p195 : 0 ≤ ((ji46) : Int) := of_decide_eq_true as_
                       have q195 : (ji46) < (t185.length : Int) := of_decide_eq_true as_
                       obtain ⟨ad195, e195, hx195_0⟩ := Kd.at_string (Kd.R_reads' HO_5.out).2.2 (ji46) p195 q195
                       cases e195
                       replace p195 := eq_true p195
                       replace q195 := eq_true q195
                       go_wp2_with (first | (go_at_call 41; (with_reducible refine (spec_l06Signed.calls k5 (rdOf ByteArray.empty t185 (ji46)) t196 true _ A49.out).mono ?_); rintro e w66 ⟨rfl, hb⟩; replace HO_5 := Aside0.mk (Kd.R_below (rr_ HO_5.out) hb); replace HO_185000 := Aside0.mk (Kd.R_below (rr_ HO_185000.out) hb); replace HO_185001 := Aside0.mk (Kd.R_below (rr_ HO_185001.out) hb); replace BK183 := Aside0.mk (blk_below (bk_ BK183.out) hb); replace BK184 := Aside0.mk (blk_below (bk_ BK184.out) hb); replace HB := Aside0.mk (below_step bS hb); (try clear hb); have p198 : 0 ≤ ((ji50) : Int) := of_decide_eq_true as_; have q198 : (ji50) < (t185.length : Int) := of_decide_eq_true as_; obtain ⟨ad198, e198, hx198_0⟩ := Kd.at_string (Kd.R_reads' HO_5.out).2.2 (ji50) p198 q198; obtain rfl : ad195 = ad198 := (by injection e198); replace p198 := eq_true p198; replace q198 := eq_true q198) | (go_at_call 41; (with_reducible refine (spec_l06Signed.calls k5 (rdOf ByteArray.empty t185 (ji50)) t199 false _ A53.out).mono ?_); rintro e w67 ⟨rfl, hb⟩; replace HO_5 := Aside0.mk (Kd.R_below (rr_ HO_5.out) hb); replace HO_185000 := Aside0.mk (Kd.R_below (rr_ HO_185000.out) hb); replace HO_185001 := Aside0.mk (Kd.R_below (rr_ HO_185001.out) hb); replace BK183 := Aside0.mk (blk_below (bk_ BK183.out) hb); replace BK184 := Aside0.mk (blk_below (bk_ BK184.out) hb); replace HB := Aside0.mk (below_step bS hb); (try clear hb); have hnb68 := NB183_184.out; have hnc68 := NB184_183.out; have hcz69_0 : w67.cell? ⟨gb183, 0, none⟩ = some (.slice none 0 0) := (blk_cell BK183.out 0).trans rfl; have hcz69_1 : w67.cell? ⟨gb183, 1, none⟩ = some (.slice none 0 0) := (blk_cell BK183.out 1).trans rfl; have hfz69_0 := blk_frozen BK183.out 0; have hfz69_1 := blk_frozen BK183.out 1))
                       repeat (go_quiet (first | (go_at_call 41; (with_reducible refine (spec_l06Signed.calls k5 (rdOf ByteArray.empty t185 (ji46)) t196 true _ A49.out).mono ?_); rintro e w66 ⟨rfl, hb⟩; replace HO_5 := Aside0.mk (Kd.R_below (rr_ HO_5.out) hb); replace HO_185000 := Aside0.mk (Kd.R_below (rr_ HO_185000.out) hb); replace HO_185001 := Aside0.mk (Kd.R_below (rr_ HO_185001.out) hb); replace BK183 := Aside0.mk (blk_below (bk_ BK183.out) hb); replace BK184 := Aside0.mk (blk_below (bk_ BK184.out) hb); replace HB := Aside0.mk (below_step bS hb); (try clear hb); have p198 : 0 ≤ ((ji50) : Int) := of_decide_eq_true as_; have q198 : (ji50) < (t185.length : Int) := of_decide_eq_true as_; obtain ⟨ad198, e198, hx198_0⟩ := Kd.at_string (Kd.R_reads' HO_5.out).2.2 (ji50) p198 q198; obtain rfl : ad195 = ad198 := (by injection e198); replace p198 := eq_true p198; replace q198 := eq_true q198) | (go_at_call 41; (with_reducible refine (spec_l06Signed.calls k5 (rdOf ByteArray.empty t185 (ji50)) t199 false _ A53.out).mono ?_); rintro e w67 ⟨rfl, hb⟩; replace HO_5 := Aside0.mk (Kd.R_below (rr_ HO_5.out) hb); replace HO_185000 := Aside0.mk (Kd.R_below (rr_ HO_185000.out) hb); replace HO_185001 := Aside0.mk (Kd.R_below (rr_ HO_185001.out) hb); replace BK183 := Aside0.mk (blk_below (bk_ BK183.out) hb); replace BK184 := Aside0.mk (blk_below (bk_ BK184.out) hb); replace HB := Aside0.mk (below_step bS hb); (try clear hb); have hnb68 := NB183_184.out; have hnc68 := NB184_183.out; have hcz69_0 : w67.cell? ⟨gb183, 0, none⟩ = some (.slice none 0 0) := (blk_cell BK183.out 0).trans rfl; have hcz69_1 : w67.cell? ⟨gb183, 1, none⟩ = some (.slice none 0 0) := (blk_cell BK183.out 1).trans rfl; have hfz69_0 := blk_frozen BK183.out 0; have hfz69_1 := blk_frozen BK183.out 1)); try go_wp2_with (first | (go_at_call 41; (with_reducible refine (spec_l06Signed.calls k5 (rdOf ByteArray.empty t185 (ji46)) t196 true _ A49.out).mono ?_); rintro e w66 ⟨rfl, hb⟩; replace HO_5 := Aside0.mk (Kd.R_below (rr_ HO_5.out) hb); replace HO_185000 := Aside0.mk (Kd.R_below (rr_ HO_185000.out) hb); replace HO_185001 := Aside0.mk (Kd.R_below (rr_ HO_185001.out) hb); replace BK183 := Aside0.mk (blk_below (bk_ BK183.out) hb); replace BK184 := Aside0.mk (blk_below (bk_ BK184.out) hb); replace HB := Aside0.mk (below_step bS hb); (try clear hb); have p198 : 0 ≤ ((ji50) : Int) := of_decide_eq_true as_; have q198 : (ji50) < (t185.length : Int) := of_decide_eq_true as_; obtain ⟨ad198, e198, hx198_0⟩ := Kd.at_string (Kd.R_reads' HO_5.out).2.2 (ji50) p198 q198; obtain rfl : ad195 = ad198 := (by injection e198); replace p198 := eq_true p198; replace q198 := eq_true q198) | (go_at_call 41; (with_reducible refine (spec_l06Signed.calls k5 (rdOf ByteArray.empty t185 (ji50)) t199 false _ A53.out).mono ?_); rintro e w67 ⟨rfl, hb⟩; replace HO_5 := Aside0.mk (Kd.R_below (rr_ HO_5.out) hb); replace HO_185000 := Aside0.mk (Kd.R_below (rr_ HO_185000.out) hb); replace HO_185001 := Aside0.mk (Kd.R_below (rr_ HO_185001.out) hb); replace BK183 := Aside0.mk (blk_below (bk_ BK183.out) hb); replace BK184 := Aside0.mk (blk_below (bk_ BK184.out) hb); replace HB := Aside0.mk (below_step bS hb); (try clear hb); have hnb68 := NB183_184.out; have hnc68 := NB184_183.out; have hcz69_0 : w67.cell? ⟨gb183, 0, none⟩ = some (.slice none 0 0) := (blk_cell BK183.out 0).trans rfl; have hcz69_1 : w67.cell? ⟨gb183, 1, none⟩ = some (.slice none 0 0) := (blk_cell BK183.out 1).trans rfl; have hfz69_0 := blk_frozen BK183.out 0; have hfz69_1 := blk_frozen BK183.out 1)))
                       refine bodyPost_ret (results_ct rfl _ _ gb183 37 #[.slice none 0 0, .slice none 0 0] (0, 0) _ rfl (by refine bk_ ?_; refine blk_put (cs := #[.slice none 0 0, .slice none 0 0]) ?_ 1 _ rfl; refine bk_ ?_; refine blk_put (cs := #[.slice none 0 0, .slice none 0 0]) ?_ 0 _ rfl; exact bk_ BK183.out) Tryd.underlying37 rfl (by kernel_rfl)) rfl ?_
                       exact ⟨_, _, by first | rfl | (simp [errW_none, errW_some] <;> rfl) | (simp only [← hji46, ← hji50]; first | rfl | (simp [errW_none, errW_some] <;> rfl)) | (simp [*, errW_none, errW_some] <;> rfl), by first | exact Kd.R_nil _ _ _ _ _ | exact Kd.N_nil _ _ _ _ _ | exact Kd.V_nil _ _ _ _ _ | exact Kd.Q_nil _ _ _ _ _ | exact Kd.S_nil _ _ _ _ _, by first | exact Kd.R_nil _ _ _ _ _ | exact Kd.N_nil _ _ _ _ _ | exact Kd.V_nil _ _ _ _ _ | exact Kd.Q_nil _ _ _ _ _ | exact Kd.S_nil _ _ _ _ _, by exact bS⟩
                     ·replace c54 := Bool.eq_false_iff.mpr c54
                      subst c54
                      have H1 : (some (([] : List Int), ([] : List (S55)), false)) = some (r1, r2, r3) := by rw [if_neg (show ¬ (false = true) by decide)] at H; exact H
                      clear H
                      have H := H1
                      clear H1
                      simp only [Option.some.injEq, Prod.mk.injEq] at H
                      obtain ⟨rfl, rfl, rfl⟩ := H
                      obtain ⟨Ao70, co70, eo70⟩ := Kd.R_slice HO_5.out
                      subst eo70
                      have p195 : 0 ≤ ((ji46) : Int) := of_decide_eq_true as_
                      have q195 : (ji46) < (t185.length : Int) := of_decide_eq_true as_
                      obtain ⟨ad195, e195, hx195_0⟩ := Kd.at_string (Kd.R_reads' HO_5.out).2.2 (ji46) p195 q195
                      cases e195
                      replace p195 := eq_true p195
                      replace q195 := eq_true q195
                      go_wp2_with (first | (go_at_call 41; (with_reducible refine (spec_l06Signed.calls k5 (rdOf ByteArray.empty t185 (ji46)) t196 false _ A49.out).mono ?_); rintro e w71 ⟨rfl, hb⟩; replace HO_5 := Aside0.mk (Kd.R_below (rr_ HO_5.out) hb); replace HO_185000 := Aside0.mk (Kd.R_below (rr_ HO_185000.out) hb); replace HO_185001 := Aside0.mk (Kd.R_below (rr_ HO_185001.out) hb); replace BK183 := Aside0.mk (blk_below (bk_ BK183.out) hb); replace BK184 := Aside0.mk (blk_below (bk_ BK184.out) hb); replace HB := Aside0.mk (below_step bS hb); (try clear hb); have p198 : 0 ≤ ((ji50) : Int) := of_decide_eq_true as_; have q198 : (ji50) < (t185.length : Int) := of_decide_eq_true as_; obtain ⟨ad198, e198, hx198_0⟩ := Kd.at_string (Kd.R_reads' HO_5.out).2.2 (ji50) p198 q198; obtain rfl : ad195 = ad198 := (by injection e198); replace p198 := eq_true p198; replace q198 := eq_true q198) | (go_at_call 41; (with_reducible refine (spec_l06Signed.calls k5 (rdOf ByteArray.empty t185 (ji50)) t199 t200 _ A53.out).mono ?_); rintro e w72 ⟨rfl, hb⟩; replace HO_5 := Aside0.mk (Kd.R_below (rr_ HO_5.out) hb); replace HO_185000 := Aside0.mk (Kd.R_below (rr_ HO_185000.out) hb); replace HO_185001 := Aside0.mk (Kd.R_below (rr_ HO_185001.out) hb); replace BK183 := Aside0.mk (blk_below (bk_ BK183.out) hb); replace BK184 := Aside0.mk (blk_below (bk_ BK184.out) hb); replace HB := Aside0.mk (below_step bS hb); (try clear hb); have hnb73 := NB183_184.out; have hnc73 := NB184_183.out; have hcz74_0 : w72.cell? ⟨gb183, 0, none⟩ = some (.slice none 0 0) := (blk_cell BK183.out 0).trans rfl; have hcz74_1 : w72.cell? ⟨gb183, 1, none⟩ = some (.slice none 0 0) := (blk_cell BK183.out 1).trans rfl; have hfz74_0 := blk_frozen BK183.out 0; have hfz74_1 := blk_frozen BK183.out 1))
                      repeat (go_quiet (first | (go_at_call 41; (with_reducible refine (spec_l06Signed.calls k5 (rdOf ByteArray.empty t185 (ji46)) t196 false _ A49.out).mono ?_); rintro e w71 ⟨rfl, hb⟩; replace HO_5 := Aside0.mk (Kd.R_below (rr_ HO_5.out) hb); replace HO_185000 := Aside0.mk (Kd.R_below (rr_ HO_185000.out) hb); replace HO_185001 := Aside0.mk (Kd.R_below (rr_ HO_185001.out) hb); replace BK183 := Aside0.mk (blk_below (bk_ BK183.out) hb); replace BK184 := Aside0.mk (blk_below (bk_ BK184.out) hb); replace HB := Aside0.mk (below_step bS hb); (try clear hb); have p198 : 0 ≤ ((ji50) : Int) := of_decide_eq_true as_; have q198 : (ji50) < (t185.length : Int) := of_decide_eq_true as_; obtain ⟨ad198, e198, hx198_0⟩ := Kd.at_string (Kd.R_reads' HO_5.out).2.2 (ji50) p198 q198; obtain rfl : ad195 = ad198 := (by injection e198); replace p198 := eq_true p198; replace q198 := eq_true q198) | (go_at_call 41; (with_reducible refine (spec_l06Signed.calls k5 (rdOf ByteArray.empty t185 (ji50)) t199 t200 _ A53.out).mono ?_); rintro e w72 ⟨rfl, hb⟩; replace HO_5 := Aside0.mk (Kd.R_below (rr_ HO_5.out) hb); replace HO_185000 := Aside0.mk (Kd.R_below (rr_ HO_185000.out) hb); replace HO_185001 := Aside0.mk (Kd.R_below (rr_ HO_185001.out) hb); replace BK183 := Aside0.mk (blk_below (bk_ BK183.out) hb); replace BK184 := Aside0.mk (blk_below (bk_ BK184.out) hb); replace HB := Aside0.mk (below_step bS hb); (try clear hb); have hnb73 := NB183_184.out; have hnc73 := NB184_183.out; have hcz74_0 : w72.cell? ⟨gb183, 0, none⟩ = some (.slice none 0 0) := (blk_cell BK183.out 0).trans rfl; have hcz74_1 : w72.cell? ⟨gb183, 1, none⟩ = some (.slice none 0 0) := (blk_cell BK183.out 1).trans rfl; have hfz74_0 := blk_frozen BK183.out 0; have hfz74_1 := blk_frozen BK183.out 1)); try go_wp2_with (first | (go_at_call 41; (with_reducible refine (spec_l06Signed.calls k5 (rdOf ByteArray.empty t185 (ji46)) t196 false _ A49.out).mono ?_); rintro e w71 ⟨rfl, hb⟩; replace HO_5 := Aside0.mk (Kd.R_below (rr_ HO_5.out) hb); replace HO_185000 := Aside0.mk (Kd.R_below (rr_ HO_185000.out) hb); replace HO_185001 := Aside0.mk (Kd.R_below (rr_ HO_185001.out) hb); replace BK183 := Aside0.mk (blk_below (bk_ BK183.out) hb); replace BK184 := Aside0.mk (blk_below (bk_ BK184.out) hb); replace HB := Aside0.mk (below_step bS hb); (try clear hb); have p198 : 0 ≤ ((ji50) : Int) := of_decide_eq_true as_; have q198 : (ji50) < (t185.length : Int) := of_decide_eq_true as_; obtain ⟨ad198, e198, hx198_0⟩ := Kd.at_string (Kd.R_reads' HO_5.out).2.2 (ji50) p198 q198; obtain rfl : ad195 = ad198 := (by injection e198); replace p198 := eq_true p198; replace q198 := eq_true q198) | (go_at_call 41; (with_reducible refine (spec_l06Signed.calls k5 (rdOf ByteArray.empty t185 (ji50)) t199 t200 _ A53.out).mono ?_); rintro e w72 ⟨rfl, hb⟩; replace HO_5 := Aside0.mk (Kd.R_below (rr_ HO_5.out) hb); replace HO_185000 := Aside0.mk (Kd.R_below (rr_ HO_185000.out) hb); replace HO_185001 := Aside0.mk (Kd.R_below (rr_ HO_185001.out) hb); replace BK183 := Aside0.mk (blk_below (bk_ BK183.out) hb); replace BK184 := Aside0.mk (blk_below (bk_ BK184.out) hb); replace HB := Aside0.mk (below_step bS hb); (try clear hb); have hnb73 := NB183_184.out; have hnc73 := NB184_183.out; have hcz74_0 : w72.cell? ⟨gb183, 0, none⟩ = some (.slice none 0 0) := (blk_cell BK183.out 0).trans rfl; have hcz74_1 : w72.cell? ⟨gb183, 1, none⟩ = some (.slice none 0 0) := (blk_cell BK183.out 1).trans rfl; have hfz74_0 := blk_frozen BK183.out 0; have hfz74_1 := blk_frozen BK183.out 1)))
                      refine bodyPost_ret (results_ct rfl _ _ gb183 37 #[.slice none 0 0, .slice none 0 0] (0, 0) _ rfl (by refine bk_ ?_; refine blk_put (cs := #[.slice none 0 0, .slice none 0 0]) ?_ 1 _ rfl; refine bk_ ?_; refine blk_put (cs := #[.slice none 0 0, .slice none 0 0]) ?_ 0 _ rfl; exact bk_ BK183.out) Tryd.underlying37 rfl (by kernel_rfl)) rfl ?_
                      exact ⟨_, _, by first | rfl | (simp [errW_none, errW_some] <;> rfl) | (simp only [← hji46, ← hji50]; first | rfl | (simp [errW_none, errW_some] <;> rfl)) | (simp [*, errW_none, errW_some] <;> rfl), by first | exact Kd.R_nil _ _ _ _ _ | exact Kd.N_nil _ _ _ _ _ | exact Kd.V_nil _ _ _ _ _ | exact Kd.Q_nil _ _ _ _ _ | exact Kd.S_nil _ _ _ _ _, by first | exact Kd.R_nil _ _ _ _ _ | exact Kd.N_nil _ _ _ _ _ | exact Kd.V_nil _ _ _ _ _ | exact Kd.Q_nil _ _ _ _ _ | exact Kd.S_nil _ _ _ _ _, by exact bS⟩
                    ·rw [if_neg c52] at H
                     exact absurd H (by simp)
                   ·rw [if_neg c51] at H
                    exact absurd H (by simp)
                  ·rw [if_neg c48] at H
                   exact absurd H (by simp)
                 ·rw [if_neg c47] at H
                  exact absurd H (by simp)
                ·rw [if_neg c45] at H
                 have c45b0 : decide (x10_5 < t191) = false := decide_eq_false c45
                 clear c45
                 have H' := Aside0.mk H
                 clear H
                 go_wp2
                 repeat (go_quiet (fail); try go_wp2)
                 go_roundg k5
                 case measure => have := HK1.out; have := HJ13.out; have := HK3.out; have := HJ31.out; have := HK5.out; omega
                 case rel => exact ⟨(wrap64 ((wrap64 (x6_1 + 1)) + (wrap64 (2 * t191)))), (y192), (x185001_5), (.slice Ao43 y192.length co43), (u185001), (by first | rfl | (simp; done) | (simp [*]; done)), H', ⟨by have := HK1.out; have := HJ13.out; have := HK3.out; have := HJ31.out; have := HK5.out; omega⟩, ⟨rr_ HO_5.out⟩, ⟨rr_ HO_185000.out⟩, ⟨rr_ HO_185001.out⟩, ⟨bk_ BK183.out⟩, ⟨bk_ BK184.out⟩, ⟨bS⟩⟩
             ·rw [if_neg c39] at H
              exact absurd H (by simp)
      ·replace c21 := Bool.eq_false_iff.mpr c21
       subst c21
       have H1 : ((spec_PathText.f kj13 x185000_1 x185001_1).bind fun bt188 => (if bt188.2 = true then (if bt188.1.toList = a0.toList then (some (x185000_1, x185001_1, true)) else (some (([] : List Int), ([] : List (S55)), false))) else (some (([] : List Int), ([] : List (S55)), false)))) = some (r1, r2, r3) := by rw [if_neg (show ¬ (false = true) by decide)] at H; exact H
       clear H
       have H := H1
       clear H1
       replace H := Option.bind_eq_some_iff.mp H
       obtain ⟨⟨t188, t189⟩, A750, H⟩ := H
       try dsimp only at H
       have A75 := Aside0.mk A750
       clear A750
       by_cases c76 : t189 = true
       ·subst c76
        have H1 : (if t188.toList = a0.toList then (some (x185000_1, x185001_1, true)) else (some (([] : List Int), ([] : List (S55)), false))) = some (r1, r2, r3) := by rw [if_pos rfl] at H; exact H
        clear H
        have H := H1
        clear H1
        by_cases c77 : t188.toList = a0.toList
        ·rw [if_pos c77] at H
         have c77b0 : (t188.toList == a0.toList) = true := beq_iff_eq.mpr c77
         have c77b1 : (t188.toList != a0.toList) = false := bne_eq_false_iff_eq.mpr c77
         clear c77
         simp only [Option.some.injEq, Prod.mk.injEq] at H
         obtain ⟨rfl, rfl, rfl⟩ := H
         have hnb78 := NB184_183.out
         have hnc78 := NB183_184.out
         have hcz79_0 : wc.cell? ⟨gb184, 0, none⟩ = some (u185000) := (blk_cell BK184.out 0).trans rfl
         have hcz79_1 : wc.cell? ⟨gb184, 1, none⟩ = some (u185001) := (blk_cell BK184.out 1).trans rfl
         have hfz79_0 := blk_frozen BK184.out 0
         have hfz79_1 := blk_frozen BK184.out 1
         obtain ⟨Ao80, co80, eo80⟩ := Kd.R_slice HO_185000.out
         subst eo80
         obtain ⟨Ao81, co81, eo81⟩ := Kd.R_slice HO_185001.out
         subst eo81
         go_wp2_with (first | (go_at_call 13; (with_reducible refine (spec_PathText.calls kj13 _ _ x185000_1 _ _ x185001_1 t188 true _ ?side1 ?side2 ?side3 ?side4 A75.out).mono ?_); (case side1 => exact cc_ (Kd.R_reads' HO_185000.out).2.2); (case side2 => exact (Kd.R_reads' HO_185000.out).2.1); (case side3 => exact cc_ (Kd.R_reads' HO_185001.out).2.2); (case side4 => exact (Kd.R_reads' HO_185001.out).2.1); rintro e w82 ⟨rfl, hb⟩; replace HO_5 := Aside0.mk (Kd.R_below (rr_ HO_5.out) hb); replace HO_185000 := Aside0.mk (Kd.R_below (rr_ HO_185000.out) hb); replace HO_185001 := Aside0.mk (Kd.R_below (rr_ HO_185001.out) hb); replace BK183 := Aside0.mk (blk_below (bk_ BK183.out) hb); replace BK184 := Aside0.mk (blk_below (bk_ BK184.out) hb); replace HB := Aside0.mk (below_step bS hb); (try clear hb); have hcz83_0 : w82.cell? ⟨gb184, 0, none⟩ = some (.slice Ao80 x185000_1.length co80) := (blk_cell BK184.out 0).trans rfl; have hcz83_1 : w82.cell? ⟨gb184, 1, none⟩ = some (.slice Ao81 x185001_1.length co81) := (blk_cell BK184.out 1).trans rfl; have hfz83_0 := blk_frozen BK184.out 0; have hfz83_1 := blk_frozen BK184.out 1; have hcz84_0 : w82.cell? ⟨gb183, 0, none⟩ = some (.slice none 0 0) := (blk_cell BK183.out 0).trans rfl; have hcz84_1 : w82.cell? ⟨gb183, 1, none⟩ = some (.slice none 0 0) := (blk_cell BK183.out 1).trans rfl; have hfz84_0 := blk_frozen BK183.out 0; have hfz84_1 := blk_frozen BK183.out 1))
         repeat (go_quiet (first | (go_at_call 13; (with_reducible refine (spec_PathText.calls kj13 _ _ x185000_1 _ _ x185001_1 t188 true _ ?side1 ?side2 ?side3 ?side4 A75.out).mono ?_); (case side1 => exact cc_ (Kd.R_reads' HO_185000.out).2.2); (case side2 => exact (Kd.R_reads' HO_185000.out).2.1); (case side3 => exact cc_ (Kd.R_reads' HO_185001.out).2.2); (case side4 => exact (Kd.R_reads' HO_185001.out).2.1); rintro e w82 ⟨rfl, hb⟩; replace HO_5 := Aside0.mk (Kd.R_below (rr_ HO_5.out) hb); replace HO_185000 := Aside0.mk (Kd.R_below (rr_ HO_185000.out) hb); replace HO_185001 := Aside0.mk (Kd.R_below (rr_ HO_185001.out) hb); replace BK183 := Aside0.mk (blk_below (bk_ BK183.out) hb); replace BK184 := Aside0.mk (blk_below (bk_ BK184.out) hb); replace HB := Aside0.mk (below_step bS hb); (try clear hb); have hcz83_0 : w82.cell? ⟨gb184, 0, none⟩ = some (.slice Ao80 x185000_1.length co80) := (blk_cell BK184.out 0).trans rfl; have hcz83_1 : w82.cell? ⟨gb184, 1, none⟩ = some (.slice Ao81 x185001_1.length co81) := (blk_cell BK184.out 1).trans rfl; have hfz83_0 := blk_frozen BK184.out 0; have hfz83_1 := blk_frozen BK184.out 1; have hcz84_0 : w82.cell? ⟨gb183, 0, none⟩ = some (.slice none 0 0) := (blk_cell BK183.out 0).trans rfl; have hcz84_1 : w82.cell? ⟨gb183, 1, none⟩ = some (.slice none 0 0) := (blk_cell BK183.out 1).trans rfl; have hfz84_0 := blk_frozen BK183.out 0; have hfz84_1 := blk_frozen BK183.out 1)); try go_wp2_with (first | (go_at_call 13; (with_reducible refine (spec_PathText.calls kj13 _ _ x185000_1 _ _ x185001_1 t188 true _ ?side1 ?side2 ?side3 ?side4 A75.out).mono ?_); (case side1 => exact cc_ (Kd.R_reads' HO_185000.out).2.2); (case side2 => exact (Kd.R_reads' HO_185000.out).2.1); (case side3 => exact cc_ (Kd.R_reads' HO_185001.out).2.2); (case side4 => exact (Kd.R_reads' HO_185001.out).2.1); rintro e w82 ⟨rfl, hb⟩; replace HO_5 := Aside0.mk (Kd.R_below (rr_ HO_5.out) hb); replace HO_185000 := Aside0.mk (Kd.R_below (rr_ HO_185000.out) hb); replace HO_185001 := Aside0.mk (Kd.R_below (rr_ HO_185001.out) hb); replace BK183 := Aside0.mk (blk_below (bk_ BK183.out) hb); replace BK184 := Aside0.mk (blk_below (bk_ BK184.out) hb); replace HB := Aside0.mk (below_step bS hb); (try clear hb); have hcz83_0 : w82.cell? ⟨gb184, 0, none⟩ = some (.slice Ao80 x185000_1.length co80) := (blk_cell BK184.out 0).trans rfl; have hcz83_1 : w82.cell? ⟨gb184, 1, none⟩ = some (.slice Ao81 x185001_1.length co81) := (blk_cell BK184.out 1).trans rfl; have hfz83_0 := blk_frozen BK184.out 0; have hfz83_1 := blk_frozen BK184.out 1; have hcz84_0 : w82.cell? ⟨gb183, 0, none⟩ = some (.slice none 0 0) := (blk_cell BK183.out 0).trans rfl; have hcz84_1 : w82.cell? ⟨gb183, 1, none⟩ = some (.slice none 0 0) := (blk_cell BK183.out 1).trans rfl; have hfz84_0 := blk_frozen BK183.out 0; have hfz84_1 := blk_frozen BK183.out 1)))
         refine bodyPost_ret (results_ct rfl _ _ gb183 37 #[.slice Ao80 x185000_1.length co80, .slice Ao81 x185001_1.length co81] (0, 0) _ rfl (by refine bk_ ?_; refine blk_put (cs := #[.slice Ao80 x185000_1.length co80, .slice none 0 0]) ?_ 1 _ rfl; refine bk_ ?_; refine blk_put (cs := #[.slice none 0 0, .slice none 0 0]) ?_ 0 _ rfl; exact bk_ BK183.out) Tryd.underlying37 rfl (by kernel_rfl)) rfl ?_
         exact ⟨_, _, by first | rfl | (simp [errW_none, errW_some] <;> rfl) | (simp [*, errW_none, errW_some] <;> rfl), by refine rr_ ?_; exact Kd.R_mono (Kd.R_far (p := ⟨gb183, 1, none⟩) (Kd.R_far (p := ⟨gb183, 0, none⟩) (Kd.R_types HO_185000.out BK183.out (by decide)) (fun _ hk => hk.2) (.slice Ao80 x185000_1.length co80)) (fun _ hk => hk.2) (.slice Ao81 x185001_1.length co81)) (fun _ hk => trivial), by refine rr_ ?_; exact Kd.R_mono (Kd.R_far (p := ⟨gb183, 1, none⟩) (Kd.R_far (p := ⟨gb183, 0, none⟩) (Kd.R_types HO_185001.out BK183.out (by decide)) (fun _ hk => hk.2) (.slice Ao80 x185000_1.length co80)) (fun _ hk => hk.2) (.slice Ao81 x185001_1.length co81)) (fun _ hk => trivial), by exact bS⟩
        ·rw [if_neg c77] at H
         have c77b0 : (t188.toList == a0.toList) = false := beq_eq_false_iff_ne.mpr c77
         have c77b1 : (t188.toList != a0.toList) = true := bne_iff_ne.mpr c77
         simp only [Option.some.injEq, Prod.mk.injEq] at H
         obtain ⟨rfl, rfl, rfl⟩ := H
         have hnb85 := NB184_183.out
         have hnc85 := NB183_184.out
         have hcz86_0 : wc.cell? ⟨gb184, 0, none⟩ = some (u185000) := (blk_cell BK184.out 0).trans rfl
         have hcz86_1 : wc.cell? ⟨gb184, 1, none⟩ = some (u185001) := (blk_cell BK184.out 1).trans rfl
         have hfz86_0 := blk_frozen BK184.out 0
         have hfz86_1 := blk_frozen BK184.out 1
         obtain ⟨Ao87, co87, eo87⟩ := Kd.R_slice HO_185000.out
         subst eo87
         obtain ⟨Ao88, co88, eo88⟩ := Kd.R_slice HO_185001.out
         subst eo88
         go_wp2_with (first | (go_at_call 13; (with_reducible refine (spec_PathText.calls kj13 _ _ x185000_1 _ _ x185001_1 t188 true _ ?side1 ?side2 ?side3 ?side4 A75.out).mono ?_); (case side1 => exact cc_ (Kd.R_reads' HO_185000.out).2.2); (case side2 => exact (Kd.R_reads' HO_185000.out).2.1); (case side3 => exact cc_ (Kd.R_reads' HO_185001.out).2.2); (case side4 => exact (Kd.R_reads' HO_185001.out).2.1); rintro e w89 ⟨rfl, hb⟩; replace HO_5 := Aside0.mk (Kd.R_below (rr_ HO_5.out) hb); replace HO_185000 := Aside0.mk (Kd.R_below (rr_ HO_185000.out) hb); replace HO_185001 := Aside0.mk (Kd.R_below (rr_ HO_185001.out) hb); replace BK183 := Aside0.mk (blk_below (bk_ BK183.out) hb); replace BK184 := Aside0.mk (blk_below (bk_ BK184.out) hb); replace HB := Aside0.mk (below_step bS hb); (try clear hb); have hcz90_0 : w89.cell? ⟨gb183, 0, none⟩ = some (.slice none 0 0) := (blk_cell BK183.out 0).trans rfl; have hcz90_1 : w89.cell? ⟨gb183, 1, none⟩ = some (.slice none 0 0) := (blk_cell BK183.out 1).trans rfl; have hfz90_0 := blk_frozen BK183.out 0; have hfz90_1 := blk_frozen BK183.out 1))
         repeat (go_quiet (first | (go_at_call 13; (with_reducible refine (spec_PathText.calls kj13 _ _ x185000_1 _ _ x185001_1 t188 true _ ?side1 ?side2 ?side3 ?side4 A75.out).mono ?_); (case side1 => exact cc_ (Kd.R_reads' HO_185000.out).2.2); (case side2 => exact (Kd.R_reads' HO_185000.out).2.1); (case side3 => exact cc_ (Kd.R_reads' HO_185001.out).2.2); (case side4 => exact (Kd.R_reads' HO_185001.out).2.1); rintro e w89 ⟨rfl, hb⟩; replace HO_5 := Aside0.mk (Kd.R_below (rr_ HO_5.out) hb); replace HO_185000 := Aside0.mk (Kd.R_below (rr_ HO_185000.out) hb); replace HO_185001 := Aside0.mk (Kd.R_below (rr_ HO_185001.out) hb); replace BK183 := Aside0.mk (blk_below (bk_ BK183.out) hb); replace BK184 := Aside0.mk (blk_below (bk_ BK184.out) hb); replace HB := Aside0.mk (below_step bS hb); (try clear hb); have hcz90_0 : w89.cell? ⟨gb183, 0, none⟩ = some (.slice none 0 0) := (blk_cell BK183.out 0).trans rfl; have hcz90_1 : w89.cell? ⟨gb183, 1, none⟩ = some (.slice none 0 0) := (blk_cell BK183.out 1).trans rfl; have hfz90_0 := blk_frozen BK183.out 0; have hfz90_1 := blk_frozen BK183.out 1)); try go_wp2_with (first | (go_at_call 13; (with_reducible refine (spec_PathText.calls kj13 _ _ x185000_1 _ _ x185001_1 t188 true _ ?side1 ?side2 ?side3 ?side4 A75.out).mono ?_); (case side1 => exact cc_ (Kd.R_reads' HO_185000.out).2.2); (case side2 => exact (Kd.R_reads' HO_185000.out).2.1); (case side3 => exact cc_ (Kd.R_reads' HO_185001.out).2.2); (case side4 => exact (Kd.R_reads' HO_185001.out).2.1); rintro e w89 ⟨rfl, hb⟩; replace HO_5 := Aside0.mk (Kd.R_below (rr_ HO_5.out) hb); replace HO_185000 := Aside0.mk (Kd.R_below (rr_ HO_185000.out) hb); replace HO_185001 := Aside0.mk (Kd.R_below (rr_ HO_185001.out) hb); replace BK183 := Aside0.mk (blk_below (bk_ BK183.out) hb); replace BK184 := Aside0.mk (blk_below (bk_ BK184.out) hb); replace HB := Aside0.mk (below_step bS hb); (try clear hb); have hcz90_0 : w89.cell? ⟨gb183, 0, none⟩ = some (.slice none 0 0) := (blk_cell BK183.out 0).trans rfl; have hcz90_1 : w89.cell? ⟨gb183, 1, none⟩ = some (.slice none 0 0) := (blk_cell BK183.out 1).trans rfl; have hfz90_0 := blk_frozen BK183.out 0; have hfz90_1 := blk_frozen BK183.out 1)))
         refine bodyPost_ret (results_ct rfl _ _ gb183 37 #[.slice none 0 0, .slice none 0 0] (0, 0) _ rfl (by refine bk_ ?_; refine blk_put (cs := #[.slice none 0 0, .slice none 0 0]) ?_ 1 _ rfl; refine bk_ ?_; refine blk_put (cs := #[.slice none 0 0, .slice none 0 0]) ?_ 0 _ rfl; exact bk_ BK183.out) Tryd.underlying37 rfl (by kernel_rfl)) rfl ?_
         exact ⟨_, _, by first | rfl | (simp [errW_none, errW_some] <;> rfl) | (simp [*, errW_none, errW_some] <;> rfl), by first | exact Kd.R_nil _ _ _ _ _ | exact Kd.N_nil _ _ _ _ _ | exact Kd.V_nil _ _ _ _ _ | exact Kd.Q_nil _ _ _ _ _ | exact Kd.S_nil _ _ _ _ _, by first | exact Kd.R_nil _ _ _ _ _ | exact Kd.N_nil _ _ _ _ _ | exact Kd.V_nil _ _ _ _ _ | exact Kd.Q_nil _ _ _ _ _ | exact Kd.S_nil _ _ _ _ _, by exact bS⟩
       ·replace c76 := Bool.eq_false_iff.mpr c76
        subst c76
        have H1 : (some (([] : List Int), ([] : List (S55)), false)) = some (r1, r2, r3) := by rw [if_neg (show ¬ (false = true) by decide)] at H; exact H
        clear H
        have H := H1
        clear H1
        simp only [Option.some.injEq, Prod.mk.injEq] at H
        obtain ⟨rfl, rfl, rfl⟩ := H
        have hnb91 := NB184_183.out
        have hnc91 := NB183_184.out
        have hcz92_0 : wc.cell? ⟨gb184, 0, none⟩ = some (u185000) := (blk_cell BK184.out 0).trans rfl
        have hcz92_1 : wc.cell? ⟨gb184, 1, none⟩ = some (u185001) := (blk_cell BK184.out 1).trans rfl
        have hfz92_0 := blk_frozen BK184.out 0
        have hfz92_1 := blk_frozen BK184.out 1
        obtain ⟨Ao93, co93, eo93⟩ := Kd.R_slice HO_185000.out
        subst eo93
        obtain ⟨Ao94, co94, eo94⟩ := Kd.R_slice HO_185001.out
        subst eo94
        go_wp2_with (first | (go_at_call 13; (with_reducible refine (spec_PathText.calls kj13 _ _ x185000_1 _ _ x185001_1 t188 false _ ?side1 ?side2 ?side3 ?side4 A75.out).mono ?_); (case side1 => exact cc_ (Kd.R_reads' HO_185000.out).2.2); (case side2 => exact (Kd.R_reads' HO_185000.out).2.1); (case side3 => exact cc_ (Kd.R_reads' HO_185001.out).2.2); (case side4 => exact (Kd.R_reads' HO_185001.out).2.1); rintro e w95 ⟨rfl, hb⟩; replace HO_5 := Aside0.mk (Kd.R_below (rr_ HO_5.out) hb); replace HO_185000 := Aside0.mk (Kd.R_below (rr_ HO_185000.out) hb); replace HO_185001 := Aside0.mk (Kd.R_below (rr_ HO_185001.out) hb); replace BK183 := Aside0.mk (blk_below (bk_ BK183.out) hb); replace BK184 := Aside0.mk (blk_below (bk_ BK184.out) hb); replace HB := Aside0.mk (below_step bS hb); (try clear hb); have hcz96_0 : w95.cell? ⟨gb183, 0, none⟩ = some (.slice none 0 0) := (blk_cell BK183.out 0).trans rfl; have hcz96_1 : w95.cell? ⟨gb183, 1, none⟩ = some (.slice none 0 0) := (blk_cell BK183.out 1).trans rfl; have hfz96_0 := blk_frozen BK183.out 0; have hfz96_1 := blk_frozen BK183.out 1))
        repeat (go_quiet (first | (go_at_call 13; (with_reducible refine (spec_PathText.calls kj13 _ _ x185000_1 _ _ x185001_1 t188 false _ ?side1 ?side2 ?side3 ?side4 A75.out).mono ?_); (case side1 => exact cc_ (Kd.R_reads' HO_185000.out).2.2); (case side2 => exact (Kd.R_reads' HO_185000.out).2.1); (case side3 => exact cc_ (Kd.R_reads' HO_185001.out).2.2); (case side4 => exact (Kd.R_reads' HO_185001.out).2.1); rintro e w95 ⟨rfl, hb⟩; replace HO_5 := Aside0.mk (Kd.R_below (rr_ HO_5.out) hb); replace HO_185000 := Aside0.mk (Kd.R_below (rr_ HO_185000.out) hb); replace HO_185001 := Aside0.mk (Kd.R_below (rr_ HO_185001.out) hb); replace BK183 := Aside0.mk (blk_below (bk_ BK183.out) hb); replace BK184 := Aside0.mk (blk_below (bk_ BK184.out) hb); replace HB := Aside0.mk (below_step bS hb); (try clear hb); have hcz96_0 : w95.cell? ⟨gb183, 0, none⟩ = some (.slice none 0 0) := (blk_cell BK183.out 0).trans rfl; have hcz96_1 : w95.cell? ⟨gb183, 1, none⟩ = some (.slice none 0 0) := (blk_cell BK183.out 1).trans rfl; have hfz96_0 := blk_frozen BK183.out 0; have hfz96_1 := blk_frozen BK183.out 1)); try go_wp2_with (first | (go_at_call 13; (with_reducible refine (spec_PathText.calls kj13 _ _ x185000_1 _ _ x185001_1 t188 false _ ?side1 ?side2 ?side3 ?side4 A75.out).mono ?_); (case side1 => exact cc_ (Kd.R_reads' HO_185000.out).2.2); (case side2 => exact (Kd.R_reads' HO_185000.out).2.1); (case side3 => exact cc_ (Kd.R_reads' HO_185001.out).2.2); (case side4 => exact (Kd.R_reads' HO_185001.out).2.1); rintro e w95 ⟨rfl, hb⟩; replace HO_5 := Aside0.mk (Kd.R_below (rr_ HO_5.out) hb); replace HO_185000 := Aside0.mk (Kd.R_below (rr_ HO_185000.out) hb); replace HO_185001 := Aside0.mk (Kd.R_below (rr_ HO_185001.out) hb); replace BK183 := Aside0.mk (blk_below (bk_ BK183.out) hb); replace BK184 := Aside0.mk (blk_below (bk_ BK184.out) hb); replace HB := Aside0.mk (below_step bS hb); (try clear hb); have hcz96_0 : w95.cell? ⟨gb183, 0, none⟩ = some (.slice none 0 0) := (blk_cell BK183.out 0).trans rfl; have hcz96_1 : w95.cell? ⟨gb183, 1, none⟩ = some (.slice none 0 0) := (blk_cell BK183.out 1).trans rfl; have hfz96_0 := blk_frozen BK183.out 0; have hfz96_1 := blk_frozen BK183.out 1)))
        refine bodyPost_ret (results_ct rfl _ _ gb183 37 #[.slice none 0 0, .slice none 0 0] (0, 0) _ rfl (by refine bk_ ?_; refine blk_put (cs := #[.slice none 0 0, .slice none 0 0]) ?_ 1 _ rfl; refine bk_ ?_; refine blk_put (cs := #[.slice none 0 0, .slice none 0 0]) ?_ 0 _ rfl; exact bk_ BK183.out) Tryd.underlying37 rfl (by kernel_rfl)) rfl ?_
        exact ⟨_, _, by first | rfl | (simp [errW_none, errW_some] <;> rfl) | (simp [*, errW_none, errW_some] <;> rfl), by first | exact Kd.R_nil _ _ _ _ _ | exact Kd.N_nil _ _ _ _ _ | exact Kd.V_nil _ _ _ _ _ | exact Kd.Q_nil _ _ _ _ _ | exact Kd.S_nil _ _ _ _ _, by first | exact Kd.R_nil _ _ _ _ _ | exact Kd.N_nil _ _ _ _ _ | exact Kd.V_nil _ _ _ _ _ | exact Kd.Q_nil _ _ _ _ _ | exact Kd.S_nil _ _ _ _ _, by exact bS⟩

end Go.Proofs.YtpmgfmalpijjbaaDoor.PFnPaths
