/- The walks of FnPaths, part 3: what the print wrote, with some proofs of the session's own. -/
import Derived.Test.YtpmgfmalpijjbaaDoorName
import Derived.Test.YtpmgfmalpijjbaaDoorShort
import Derived.Test.YtpmgfmalpijjbaaDoorQFnPathsx0
import Derived.Test.YtpmgfmalpijjbaaDoorQFnPathsx2
namespace Go.Proofs.YtpmgfmalpijjbaaDoor.PFnPaths
open Go.RowKit Go.Proofs.YtpmgfmalpijjbaaDoor.Short Go.Proofs.YtpmgfmalpijjbaaDoorW.PrintWords Go.Proofs.YtpmgfmalpijjbaaDoorW.PrintLast Go.Proofs.YtpmgfmalpijjbaaDoorW.PrintMore
attribute [local go_sem] max2_int min2_int max_two min_two max_three min_three max_four min_four   -- for this text's walks alone
set_option linter.unusedVariables false
set_option linter.unusedSimpArgs false

/-! ### impl_PathText: function 15 -/
mutual
def impl_PathText.l0 : Nat → List ByteArray → Int → List Int → Int → Int → List Int → List (S55) → Option (ByteArray × Bool)
  | 0, _, _, _, _, _, _, _ => none
  | k + 1, x4, x5, x12, x13, x14, x115000, x115001 => if x14 < x13 then (if 0 ≤ x14 then (if x14 < (x12.length : Int) then (if 0 ≤ (wrap64 ((rd x12 x14) - 1)) then (if (wrap64 ((rd x12 x14) - 1)) ≤ (rd x12 x14) then (if (rd x12 x14) ≤ 5 then (if x4.length < 8796093022208 then ((impl_NeedOf.f k (rd x12 x14)).bind fun t121 => (impl_PathText.l1 k (x4 ++ [(⟨#[77, 76, 81, 67, 90]⟩ : ByteArray).extract ((wrap64 ((rd x12 x14) - 1)) : Int).toNat ((rd x12 x14) : Int).toNat]) x5 x12 x13 x14 t121 0 x115000 x115001)) else (none)) else (none)) else (none)) else (none)) else (none)) else (none)) else ((strings_Join.f x4 (⟨#[32]⟩ : ByteArray)).bind fun t116 => (some (t116, true)))
def impl_PathText.l1 : Nat → List ByteArray → Int → List Int → Int → Int → Int → Int → List Int → List (S55) → Option (ByteArray × Bool)
  | 0, _, _, _, _, _, _, _, _, _ => none
  | k + 1, x4, x5, x12, x13, x14, x26, x27, x115000, x115001 => if x27 < x26 then (if 0 ≤ x5 then (if x5 < (x115001.length : Int) then ((impl_Decimal.f ((rd_T55 x115001 x5).f0)).bind fun t123 => ((impl_Decimal.f ((rd_T55 x115001 x5).f1)).bind fun t125 => ((some (([t123, t125] : List ByteArray) : List ByteArray)).bind fun y126 => (if x4.length + y126.length < 8796093022208 then (impl_PathText.l1 k (x4 ++ y126) (wrap64 (x5 + 1)) x12 x13 x14 x26 (wrap64 (x27 + 1)) x115000 x115001) else (none))))) else (none)) else (none)) else (impl_PathText.l0 k x4 x5 x12 x13 (wrap64 (x14 + 1)) x115000 x115001)
end
def impl_PathText.f (k : Nat) (l0_0 : List Int) (l0_1 : List (S55)) : Option (ByteArray × Bool) := (impl_PathOk.f k l0_0 l0_1).bind fun t115 => (if t115 = true then (impl_PathText.l0 k ([] : List ByteArray) 0 l0_0 (l0_0.length : Int) 0 l0_0 l0_1) else (some ((⟨#[]⟩ : ByteArray), false)))
theorem impl_PathText.mono_l : ∀ k, (∀ y0 y1 y2 y3 y4 y5 y6, LeO (impl_PathText.l0 k y0 y1 y2 y3 y4 y5 y6) (impl_PathText.l0 (k + 1) y0 y1 y2 y3 y4 y5 y6)) ∧ (∀ y0 y1 y2 y3 y4 y5 y6 y7 y8, LeO (impl_PathText.l1 k y0 y1 y2 y3 y4 y5 y6 y7 y8) (impl_PathText.l1 (k + 1) y0 y1 y2 y3 y4 y5 y6 y7 y8))
  | 0 => ⟨fun _ _ _ _ _ _ _ r h => by simp [impl_PathText.l0] at h, fun _ _ _ _ _ _ _ _ _ r h => by simp [impl_PathText.l1] at h⟩
  | k + 1 => by
    obtain ⟨ih0, ih1⟩ := impl_PathText.mono_l k
    refine ⟨?_, ?_⟩
    · intro y0 y1 y2 y3 y4 y5 y6
      unfold impl_PathText.l0
      repeat' first
      | (with_reducible exact ih0 _ _ _ _ _ _ _)
      | (with_reducible exact ih1 _ _ _ _ _ _ _ _ _)
      | (with_reducible exact impl_NeedOf.mono _ _)
      | (with_reducible exact impl_PathOk.mono _ _ _)
      | (with_reducible exact LeO.refl _)
      | (with_reducible exact LeO.none _)
      | (with_reducible refine LeO.ite ?_ ?_)
      | (with_reducible refine LeO.bind ?_ (fun _ => ?_))
      | exact ih0 _ _ _ _ _ _ _
      | exact ih1 _ _ _ _ _ _ _ _ _
      | exact impl_NeedOf.mono _ _
      | exact impl_PathOk.mono _ _ _
      | exact LeO.none _
      | refine LeO.ite ?_ ?_
      | refine LeO.bind ?_ (fun _ => ?_)
    · intro y0 y1 y2 y3 y4 y5 y6 y7 y8
      unfold impl_PathText.l1
      repeat' first
      | (with_reducible exact ih0 _ _ _ _ _ _ _)
      | (with_reducible exact ih1 _ _ _ _ _ _ _ _ _)
      | (with_reducible exact impl_NeedOf.mono _ _)
      | (with_reducible exact impl_PathOk.mono _ _ _)
      | (with_reducible exact LeO.refl _)
      | (with_reducible exact LeO.none _)
      | (with_reducible refine LeO.ite ?_ ?_)
      | (with_reducible refine LeO.bind ?_ (fun _ => ?_))
      | exact ih0 _ _ _ _ _ _ _
      | exact ih1 _ _ _ _ _ _ _ _ _
      | exact impl_NeedOf.mono _ _
      | exact impl_PathOk.mono _ _ _
      | exact LeO.none _
      | refine LeO.ite ?_ ?_
      | refine LeO.bind ?_ (fun _ => ?_)
theorem impl_PathText.mono : ∀ a0 a1 k, LeO (impl_PathText.f k a0 a1) (impl_PathText.f (k + 1) a0 a1) := by
  intro a0 a1 k
  obtain ⟨ih0, ih1⟩ := impl_PathText.mono_l k
  unfold impl_PathText.f
  repeat' first
      | (with_reducible exact ih0 _ _ _ _ _ _ _)
      | (with_reducible exact ih1 _ _ _ _ _ _ _ _ _)
      | (with_reducible exact impl_NeedOf.mono _ _)
      | (with_reducible exact impl_PathOk.mono _ _ _)
      | (with_reducible exact LeO.refl _)
      | (with_reducible exact LeO.none _)
      | (with_reducible refine LeO.ite ?_ ?_)
      | (with_reducible refine LeO.bind ?_ (fun _ => ?_))
      | exact ih0 _ _ _ _ _ _ _
      | exact ih1 _ _ _ _ _ _ _ _ _
      | exact impl_NeedOf.mono _ _
      | exact impl_PathOk.mono _ _ _
      | exact LeO.none _
      | refine LeO.ite ?_ ?_
      | refine LeO.bind ?_ (fun _ => ?_)
def impl_PathText.T11 : Bool × List (List Nat × List Nat) := (true, [([], []), ([], []), ([1], [1]), ([], []), ([2, 3], [2, 3]), ([4], [4]), ([5], [5]), ([6], [6]), ([], []), ([8], [8]), ([], []), ([9, 10], [9, 10]), ([11], [11]), ([12], [12]), ([13, 7], [13]), ([7, 14], [7, 14]), ([0, 15, 14], [0, 15]), ([16, 16, 0, 1, 2, 3, 4, 5, 6, 7, 8, 9, 10, 11, 12, 13, 14, 15, 16], [0, 16])])
def impl_PathText.B11 : List Nat := [0, 0, 2, 0, 14, 30, 62, 126, 0, 256, 0, 1792, 3840, 7936, 16382, 32766, 65535, 131071]
theorem impl_PathText.tab11 : rtab .any (opsOf Tryd.f15 11) = impl_PathText.T11 := by kernel_rfl
theorem impl_PathText.bits11 : waitsOk impl_PathText.T11.2 impl_PathText.B11 = true := by kernel_rfl
set_option maxHeartbeats 8000000 in
set_option maxRecDepth 100000 in
theorem impl_PathText.calls (k : Nat) (A0_0 : Option Addr) (c0_0 : Nat) (l0_0 : List Int) (A0_1 : Option Addr) (c0_1 : Nat) (l0_1 : List (S55)) (r1 : ByteArray) (r2 : Bool) (w : World) (hr0_0 : Kd.C (Kd.int .i64) w A0_0 l0_0.length l0_0) (hc0_0 : l0_0.length ≤ c0_0) (hr0_1 : Kd.C k55 w A0_1 l0_1.length l0_1) (hc0_1 : l0_1.length ≤ c0_1) (hT_ : Tab.Is w) (h : impl_PathText.f k l0_0 l0_1 = some (r1, r2)) :
    Calls Tryd.prog 15 #[.agg #[.slice A0_0 l0_0.length c0_0, .slice A0_1 l0_1.length c0_1]] w fun e w' => e = .returned (.tuple #[.string r1, .bool r2]) ∧ Below w.heap.size w w' := by
 have HTB_ := Aside0.mk hT_
 clear hT_
 have hu37 := Tryd.underlying37
 have HR0_0 := Aside0.mk hr0_0
 have HC0_0 := Aside0.mk hc0_0
 clear hr0_0 hc0_0
 have HR0_1 := Aside0.mk hr0_1
 have HC0_1 := Aside0.mk hc0_1
 clear hr0_1 hc0_1
 have HB := Aside0.mk (Below.refl w.heap.size w)
 have H : ((impl_PathOk.f k l0_0 l0_1).bind fun t115 => (if t115 = true then (impl_PathText.l0 k ([] : List ByteArray) 0 l0_0 (l0_0.length : Int) 0 l0_0 l0_1) else (some ((⟨#[]⟩ : ByteArray), false)))) = some (r1, r2) := h
 clear h
 replace H := Option.bind_eq_some_iff.mp H
 obtain ⟨t115, A20, H⟩ := H
 try dsimp only at H
 have A2 := Aside0.mk A20
 clear A20
 by_cases c3 : t115 = true
 ·subst c3
  have H1 : (impl_PathText.l0 k ([] : List ByteArray) 0 l0_0 (l0_0.length : Int) 0 l0_0 l0_1) = some (r1, r2) := by rw [if_pos rfl] at H; exact H
  clear H
  have H := H1
  clear H1
  have H' := Aside0.mk H
  clear H
  go_enter Tryd.func15, Tryd.ntmps15
  go_wp2_with (first | ((with_reducible refine gate_dst (N := 1) rfl ?_); refine box_event ?hg (N := 1) ?hd (cs := #[.slice A0_0 l0_0.length c0_0, .slice A0_1 l0_1.length c0_1]) (t := 37) ?hr ?_; (case hd => rfl); (case hg => rfl); (case hr => first | (go_simp; done) | (go_simp; rfl)); intro gb114 hg w4 hbox hb; have BK114 := Aside0.mk (hbox); have GW114 := Aside0.mk ((by rw [hg]; exact (below_size bS) : w.heap.size ≤ gb114)); have GE114 := Aside0.mk ((by rw [hg]; exact (below_size bS) : w.heap.size ≤ gb114)); replace HB := Aside0.mk (below_step bS hb); clear hb hbox hg; have hcz5_0 : w4.cell? ⟨gb114, 0, none⟩ = some (.slice A0_0 l0_0.length c0_0) := (blk_cell BK114.out 0).trans rfl; have hcz5_1 : w4.cell? ⟨gb114, 1, none⟩ = some (.slice A0_1 l0_1.length c0_1) := (blk_cell BK114.out 1).trans rfl; have hfz5_0 := blk_frozen BK114.out 0; have hfz5_1 := blk_frozen BK114.out 1) | ((with_reducible refine gate_callee (f := 24) rfl ?_); refine goesL_ (some 9) rfl rfl Tryd.func24 (by kernel_rfl) rfl #[.agg #[.slice A0_0 l0_0.length c0_0, .slice A0_1 l0_1.length c0_1]] rfl lm_ ?_; (with_reducible refine (impl_PathOk.calls k _ _ l0_0 _ _ l0_1 true _ ?side1 ?side2 ?side3 ?side4 A2.out).mono ?_); (case side1 => exact cc_ (Kd.C_below HR0_0.out HB.out)); (case side2 => exact HC0_0.out); (case side3 => exact cc_ (Kd.C_below HR0_1.out HB.out)); (case side4 => exact HC0_1.out); rintro e w6 ⟨rfl, hb⟩; refine ⟨_, rfl, ?_⟩; replace BK114 := Aside0.mk (blk_below (bk_ BK114.out) hb); replace HB := Aside0.mk (below_step bS hb); (try clear hb); have hcz7_0 : w6.cell? ⟨gb114, 0, none⟩ = some (.slice A0_0 l0_0.length c0_0) := (blk_cell BK114.out 0).trans rfl; have hcz7_1 : w6.cell? ⟨gb114, 1, none⟩ = some (.slice A0_1 l0_1.length c0_1) := (blk_cell BK114.out 1).trans rfl; have hfz7_0 := blk_frozen BK114.out 0; have hfz7_1 := blk_frozen BK114.out 1))
  go_loopg [4, 5, 14] k (fun kq v4 v5 v14 w' => ∃ (x4_1 : List ByteArray) (x5_1 : Int) (x14_1 : Int), v5 = .int .i64 x5_1 ∧ v14 = .int .i64 x14_1 ∧ Aside0 (impl_PathText.l0 kq x4_1 x5_1 l0_0 (l0_0.length : Int) x14_1 l0_0 l0_1 = some (r1, r2)) ∧ Aside0 (kq ≤ k) ∧ Aside0 (Kd.R Kd.string 9 w' w.heap.size (fun _ => True) v4 x4_1) ∧ Aside0 (w'.heap[gb114]? = some (.cells #[(.slice A0_0 l0_0.length c0_0), (.slice A0_1 l0_1.length c0_1)] 37 (0, 0))) ∧ Aside0 (Below w.heap.size w w'))
  case atStart => exact ⟨(([] : List ByteArray)), (0), (0), (by first | rfl | (simp; done) | (simp [*]; done)), (by first | rfl | (simp; done) | (simp [*]; done)), H', ⟨Nat.le_refl _⟩, ⟨by first | exact Kd.R_nil _ _ _ _ _ | exact Kd.N_nil _ _ _ _ _ | exact Kd.V_nil _ _ _ _ _ | exact Kd.Q_nil _ _ _ _ _ | exact Kd.S_nil _ _ _ _ _⟩, ⟨bk_ BK114.out⟩, ⟨bS⟩⟩
  case round =>
   clear H'
   try clear c1
   try clear c2
   try clear p2
   try clear c3
   try clear hcz5_0
   try clear hcz5_1
   try clear hcz7_0
   try clear hcz7_1
   try clear hfz5_0
   try clear hfz5_1
   try clear hfz7_0
   try clear hfz7_1
   obtain ⟨x4_1, x5_1, x14_1, rfl, rfl, HA, HK1, HO_4, BK114, HB⟩ := hrel
   cases gk with
   | zero => exact absurd HA.out (by simp [impl_PathText.l0])
   | succ k1 =>
    have H := HA.out
    clear HA
    simp only [impl_PathText.l0] at H
    by_cases c8 : x14_1 < (l0_0.length : Int)
    ·rw [if_pos c8] at H
     have c8b0 : decide (x14_1 < (l0_0.length : Int)) = true := decide_eq_true c8
     clear c8
     by_cases c9 : 0 ≤ x14_1
     ·rw [if_pos c9] at H
      have c9b0 : decide (0 ≤ x14_1) = true := decide_eq_true c9
      clear c9
      by_cases c10 : x14_1 < (l0_0.length : Int)
      ·rw [if_pos c10] at H
       have c10b0 : decide (x14_1 < (l0_0.length : Int)) = true := decide_eq_true c10
       clear c10
       obtain ⟨ji11, hji11⟩ : ∃ j_ : Int, (wrap64 ((rd l0_0 x14_1) - 1)) = j_ := ⟨_, rfl⟩
       replace H : (if 0 ≤ (ji11) then (if (ji11) ≤ (rd l0_0 x14_1) then (if (rd l0_0 x14_1) ≤ 5 then (if x4_1.length < 8796093022208 then ((impl_NeedOf.f k1 (rd l0_0 x14_1)).bind fun t121 => (impl_PathText.l1 k1 (x4_1 ++ [(⟨#[77, 76, 81, 67, 90]⟩ : ByteArray).extract ((ji11) : Int).toNat ((rd l0_0 x14_1) : Int).toNat]) x5_1 l0_0 (l0_0.length : Int) x14_1 t121 0 l0_0 l0_1)) else (none)) else (none)) else (none)) else (none)) = some (r1, r2) := by first | (rw [hji11] at H; exact H) | (simp only [hji11] at H ⊢; exact H)
       have hji11w : (IntKind.i64.wrap ((rd l0_0 x14_1) - 1)) = ji11 := (i64_w _).trans hji11
       by_cases c12 : 0 ≤ (ji11)
       ·rw [if_pos c12] at H
        have c12b0 := eq_true c12
        have c12b1 : decide (0 ≤ (ji11)) = true := decide_eq_true c12
        clear c12
        by_cases c13 : (ji11) ≤ (rd l0_0 x14_1)
        ·rw [if_pos c13] at H
         have c13b0 := eq_true c13
         have c13b1 : decide ((ji11) ≤ (rd l0_0 x14_1)) = true := decide_eq_true c13
         clear c13
         by_cases c14 : (rd l0_0 x14_1) ≤ 5
         ·rw [if_pos c14] at H
          have c14b0 := eq_true c14
          have c14b1 : decide ((rd l0_0 x14_1) ≤ 5) = true := decide_eq_true c14
          clear c14
          by_cases c15 : x4_1.length < 8796093022208
          ·rw [if_pos c15] at H
           have LMc15 := Aside0.mk c15
           clear c15
           obtain ⟨y118, hy118⟩ : ∃ y_ : List ByteArray, y_ = (x4_1 ++ [(⟨#[77, 76, 81, 67, 90]⟩ : ByteArray).extract ((ji11) : Int).toNat ((rd l0_0 x14_1) : Int).toNat]) := ⟨_, rfl⟩
           replace H : ((impl_NeedOf.f k1 (rd l0_0 x14_1)).bind fun t121 => (impl_PathText.l1 k1 y118 x5_1 l0_0 (l0_0.length : Int) x14_1 t121 0 l0_0 l0_1)) = some (r1, r2) := by first | (rw [hy118]; with_reducible exact H) | (have H2_ := (Option.bind_some _ _).symm.trans H; rw [hy118]; with_reducible exact H2_) | (have H2_ := (Option.bind_some _ _).symm.trans H; with_reducible exact H2_) | with_reducible exact H | (rw [hy118]; exact H) | exact H
           have Ny118 := Aside0.mk hy118
           clear hy118
           replace H := Option.bind_eq_some_iff.mp H
           obtain ⟨t121, A160, H⟩ := H
           try dsimp only at H
           have A16 := Aside0.mk A160
           clear A160
           have H' := Aside0.mk H
           clear H
           have p117 : 0 ≤ (x14_1 : Int) := of_decide_eq_true as_
           have q117 : x14_1 < (l0_0.length : Int) := of_decide_eq_true as_
           obtain ⟨ad117, e117, hx117_0⟩ := Kd.at_int HR0_0.out x14_1 p117 q117
           cases e117
           replace hx117_0 := (HB.out.cell (World.block_lt_of_cell? w _ hx117_0)).trans hx117_0
           replace p117 := eq_true p117
           replace q117 := eq_true q117
           go_wp2_with (first | ((with_reducible refine gate_builtin (b := .append) (xs := #[.tmp 18, .tmp 23]) rfl ?_); at_builtin; refine Kd.R_append Kd.string (w0 := w) w.heap.size rfl (.tmp 18) (.tmp 23) 22 9 (.string ⟨#[]⟩) 16 rfl Tryd.underlying22 info9 rfl (by decide) (by omega) u4 x4_1 ((⟨#[77, 76, 81, 67, 90]⟩ : ByteArray).extract ((ji11) : Int).toNat ((rd l0_0 x14_1) : Int).toNat) [.string ((⟨#[77, 76, 81, 67, 90]⟩ : ByteArray).extract ((ji11) : Int).toNat ((rd l0_0 x14_1) : Int).toNat)] (fun _ => True) (fun _ => False) rfl rfl ?aP (fun _ hk => hk.elim) ?aF ?aO ?aB ?aS ?aL ?_; (case aP => exact rfl); (case aB => exact bS); (case aF => exact (fun _ _ => trivial)); (case aO => exact (rr_ HO_4.out)); (case aS => exact (below_size bS)); (case aL => have := LMc15.out; omega); intro v119 w17 ho hb hg hat; rw [← Ny118.out] at ho; have n0_ := Aside0.mk (blk_grown (bk_ BK114.out) hg (Kd.R_ne HO_4.out BK114.out (by decide))); have n1_ := Aside0.mk (hb); have n2_ := Aside0.mk (ho); clear BK114; clear HB; clear HO_4; have BK114 := n0_; have HB := n1_; have HO120 := n2_; clear n0_ n1_ n2_; clear ho hb hg hat) | ((with_reducible refine gate_callee (f := 27) rfl ?_); refine goesL_ (some 26) rfl rfl Tryd.func27 (by kernel_rfl) rfl #[.int .i64 (rd l0_0 x14_1)] rfl lm_ ?_; (with_reducible refine (impl_NeedOf.calls k1 (rd l0_0 x14_1) t121 _ A16.out).mono ?_); rintro e w' ⟨rfl, ⟨nd, rfl⟩⟩; refine ⟨_, rfl, ?_⟩))
           go_loopg [4, 5, 27] k1 (fun kq v4 v5 v27 w' => ∃ (x4_2 : List ByteArray) (x5_2 : Int) (x27_2 : Int), v5 = .int .i64 x5_2 ∧ v27 = .int .i64 x27_2 ∧ Aside0 (impl_PathText.l1 kq x4_2 x5_2 l0_0 (l0_0.length : Int) x14_1 t121 x27_2 l0_0 l0_1 = some (r1, r2)) ∧ Aside0 (kq ≤ k1) ∧ Aside0 (Kd.R Kd.string 9 w' w.heap.size (fun _ => True) v4 x4_2) ∧ Aside0 (w'.heap[gb114]? = some (.cells #[(.slice (some ad117) l0_0.length c0_0), (.slice A0_1 l0_1.length c0_1)] 37 (0, 0))) ∧ Aside0 (Below w.heap.size w w'))
           case atStart => exact ⟨(y118), (x5_1), (0), (by first | rfl | (simp; done) | (simp [*]; done)), (by first | rfl | (simp; done) | (simp [*]; done)), H', ⟨Nat.le_refl _⟩, ⟨rr_ HO120.out⟩, ⟨bk_ BK114.out⟩, ⟨bS⟩⟩
           case round =>
            clear H'
            try clear c1
            try clear p1
            try clear q1
            try clear hx1
            try clear c2
            try clear p2
            try clear c3
            try clear p6
            try clear c8
            try clear c8b0
            try clear c9
            try clear c9b0
            try clear c10
            try clear c10b0
            try clear p11
            try clear q11
            try clear hx11
            try clear c12
            try clear c12b0
            try clear c12b1
            try clear c13
            try clear c13b0
            try clear c13b1
            try clear c14
            try clear c14b0
            try clear c14b1
            try clear c15
            try clear hcz5_0
            try clear hcz5_1
            try clear hcz7_0
            try clear hcz7_1
            try clear hfz5_0
            try clear hfz5_1
            try clear hfz7_0
            try clear hfz7_1
            try clear hx117_0
            try clear p117
            try clear p2
            try clear q117
            obtain ⟨x4_2, x5_2, x27_2, rfl, rfl, HA, HK2, HO_4, BK114, HB⟩ := hrel
            cases gk with
            | zero => exact absurd HA.out (by simp [impl_PathText.l1])
            | succ k2 =>
             have H := HA.out
             clear HA
             simp only [impl_PathText.l1] at H
             by_cases c18 : x27_2 < t121
             ·rw [if_pos c18] at H
              have c18b0 : decide (x27_2 < t121) = true := decide_eq_true c18
              clear c18
              by_cases c19 : 0 ≤ x5_2
              ·rw [if_pos c19] at H
               have c19b0 : decide (0 ≤ x5_2) = true := decide_eq_true c19
               clear c19
               by_cases c20 : x5_2 < (l0_1.length : Int)
               ·rw [if_pos c20] at H
                have c20b0 : decide (x5_2 < (l0_1.length : Int)) = true := decide_eq_true c20
                clear c20
                replace H := Option.bind_eq_some_iff.mp H
                obtain ⟨t123, A210, H⟩ := H
                try dsimp only at H
                have A21 := Aside0.mk A210
                clear A210
                replace H := Option.bind_eq_some_iff.mp H
                obtain ⟨t125, A220, H⟩ := H
                try dsimp only at H
                have A22 := Aside0.mk A220
                clear A220
                obtain ⟨y126, hy126⟩ : ∃ y_ : List ByteArray, y_ = (([t123, t125] : List ByteArray)) := ⟨_, rfl⟩
                replace H : (if x4_2.length + y126.length < 8796093022208 then (impl_PathText.l1 k2 (x4_2 ++ y126) (wrap64 (x5_2 + 1)) l0_0 (l0_0.length : Int) x14_1 t121 (wrap64 (x27_2 + 1)) l0_0 l0_1) else (none)) = some (r1, r2) := by first | (rw [hy126]; with_reducible exact H) | (have H2_ := (Option.bind_some _ _).symm.trans H; rw [hy126]; with_reducible exact H2_) | (have H2_ := (Option.bind_some _ _).symm.trans H; with_reducible exact H2_) | with_reducible exact H | (rw [hy126]; exact H) | exact H
                have Ny126 := Aside0.mk hy126
                clear hy126
                by_cases c23 : x4_2.length + y126.length < 8796093022208
                ·rw [if_pos c23] at H
                 have LMc23 := Aside0.mk c23
                 clear c23
                 obtain ⟨y129, hy129⟩ : ∃ y_ : List ByteArray, y_ = (x4_2 ++ y126) := ⟨_, rfl⟩
                 replace H : (impl_PathText.l1 k2 y129 (wrap64 (x5_2 + 1)) l0_0 (l0_0.length : Int) x14_1 t121 (wrap64 (x27_2 + 1)) l0_0 l0_1) = some (r1, r2) := by first | (rw [hy129]; with_reducible exact H) | (have H2_ := (Option.bind_some _ _).symm.trans H; rw [hy129]; with_reducible exact H2_) | (have H2_ := (Option.bind_some _ _).symm.trans H; with_reducible exact H2_) | with_reducible exact H | (rw [hy129]; exact H) | exact H
                 have Ny129 := Aside0.mk hy129
                 clear hy129
                 have H' := Aside0.mk H
                 clear H
                 try go_wp2
                 replace HO_4 := Aside0.mk (Kd.R_drew HO_4.out)
                 replace BK114 := Aside0.mk (blk_drew BK114.out)
                 replace HB := Aside0.mk (below_drew1 HB.out)
                 have p122 : 0 ≤ (x5_2 : Int) := of_decide_eq_true as_
                 have q122 : x5_2 < (l0_1.length : Int) := of_decide_eq_true as_
                 obtain ⟨ad122, e122, hx122_0, hx122_1⟩ := at_T55 HR0_1.out x5_2 p122 q122
                 have hw122_1 := hx122_1
                 have hw122_0 := hx122_0
                 cases e122
                 replace hx122_0 := (HB.out.cell (World.block_lt_of_cell? w _ hx122_0)).trans hx122_0
                 replace hx122_1 := (HB.out.cell (World.block_lt_of_cell? w _ hx122_1)).trans hx122_1
                 replace p122 := eq_true p122
                 replace q122 := eq_true q122
                 have p124 : 0 ≤ (x5_2 : Int) := of_decide_eq_true as_
                 have q124 : x5_2 < (l0_1.length : Int) := of_decide_eq_true as_
                 obtain ⟨ad124, e124, hx124_0, hx124_1⟩ := at_T55 HR0_1.out x5_2 p124 q124
                 have hw124_1 := hx124_1
                 have hw124_0 := hx124_0
                 obtain rfl : ad122 = ad124 := (by injection e124)
                 replace hx124_0 := (HB.out.cell (World.block_lt_of_cell? w _ hx124_0)).trans hx124_0
                 replace hx124_1 := (HB.out.cell (World.block_lt_of_cell? w _ hx124_1)).trans hx124_1
                 replace p124 := eq_true p124
                 replace q124 := eq_true q124
                 refine start_ (n := 18) (S := fun w' => w'.cell? ⟨gb114, 0, none⟩ = some (.slice (some ad117) l0_0.length c0_0) ∧ w'.cell? ⟨gb114, 1, none⟩ = some (.slice (some ad122) l0_1.length c0_1) ∧ w'.cell? (ad122.add ((x5_2).toNat * 2)) = some (.int .i64 ((rd_T55 l0_1 x5_2).f0)) ∧ w'.cell? ⟨(ad122.add ((x5_2).toNat * 2)).block, (ad122.add ((x5_2).toNat * 2)).off + 1, none⟩ = some (.int .i64 ((rd_T55 l0_1 x5_2).f1)) ∧ w'.cell? (ad122.add ((x5_2).toNat * 2)) = some (.int .i64 ((rd_T55 l0_1 x5_2).f0)) ∧ w'.cell? ⟨(ad122.add ((x5_2).toNat * 2)).block, (ad122.add ((x5_2).toNat * 2)).off + 1, none⟩ = some (.int .i64 ((rd_T55 l0_1 x5_2).f1))) (ds := []) #[F,F,F,F,F,F,F,F,F,F,F,F,F,F,F,F,F,F] (by kernel_rfl) rfl rfl ⟨(blk_cell BK114.out 0).trans rfl, (blk_cell BK114.out 1).trans rfl, ((HB.out.cell (World.block_lt_of_cell? w _ hw122_0)).trans hw122_0), ((HB.out.cell (World.block_lt_of_cell? w _ hw122_1)).trans hw122_1), ((HB.out.cell (World.block_lt_of_cell? w _ hw124_0)).trans hw124_0), ((HB.out.cell (World.block_lt_of_cell? w _ hw124_1)).trans hw124_1)⟩ (fun hHeld => ?_); refine with_tabW impl_PathText.tab11 impl_PathText.bits11 (fun HT_ HW_ => ?_)
                 generalize wr.drew = w24 at HO_4 BK114 HB hx122_0 hx122_1 hx124_0 hx124_1 hHeld ⊢
                 refine pure_ (i := 0) (N := some 29) (v := ?_) (a' := ?_) #[T,F,F,F,F,F,F,F,F,F,F,F,F,F,F,F,F,F] rfl rfl (any_of HT_.out (by kernel_rfl)) (fun _ _ _ h => h) (Or.inl ⟨by rfl, ?_⟩) ?_ ?_; rotate_left
                 ·intro w'; go_simp; with_reducible rfl
                 rotate_left
                 ·simp only [PS]; rfl
                 refine pure_ (i := 1) (N := some 30) (v := ?_) (a' := ?_) #[T,T,F,F,F,F,F,F,F,F,F,F,F,F,F,F,F,F] rfl rfl (any_of HT_.out (by kernel_rfl)) (fun _ _ _ h => h) (Or.inl ⟨by rfl, ?_⟩) ?_ ?_; rotate_left
                 ·intro w'; go_simp; with_reducible rfl
                 rotate_left
                 ·simp only [PS]; rfl
                 refine pure_ (i := 3) (N := some 32) (v := ?_) (a' := ?_) #[T,T,F,T,F,F,F,F,F,F,F,F,F,F,F,F,F,F] rfl rfl (any_of HT_.out (by kernel_rfl)) (fun _ _ _ h => h) (Or.inl ⟨by rfl, ?_⟩) ?_ ?_; rotate_left
                 ·intro w'; go_simp; with_reducible rfl
                 rotate_left
                 ·simp only [PS]; rfl
                 refine pure_ (i := 8) (N := some 37) (v := ?_) (a' := ?_) #[T,T,F,T,F,F,F,F,T,F,F,F,F,F,F,F,F,F] rfl rfl (any_of HT_.out (by kernel_rfl)) (fun _ _ _ h => h) (Or.inl ⟨by rfl, ?_⟩) ?_ ?_; rotate_left
                 ·intro w'; go_simp; with_reducible rfl
                 rotate_left
                 ·simp only [PS]; rfl
                 refine pure_ (i := 10) (N := some 39) (v := ?_) (a' := ?_) #[T,T,F,T,F,F,F,F,T,F,T,F,F,F,F,F,F,F] rfl rfl (any_of HT_.out (by kernel_rfl)) (fun _ _ _ h => h) (Or.inl ⟨by rfl, ?_⟩) ?_ ?_; rotate_left
                 ·intro w'; go_simp; with_reducible rfl
                 rotate_left
                 ·simp only [PS]; rfl
                 refine take_ (i := 2) (N := some 31) (v := ?_) (a' := ?_) #[T,T,T,T,F,F,F,F,T,F,T,F,F,F,F,F,F,F] rfl rfl (take_ofW HT_.out HW_.out (by kernel_rfl)) (fun _ _ _ h => h) (Or.inl ⟨by rfl, ?_⟩) hHeld ?_ ?_; rotate_left
                 ·rintro w' ⟨s0, s1, s2, s3, s4, s5⟩; go_simp; with_reducible rfl
                 rotate_left
                 ·simp only [PS]; rfl
                 refine pure_ (i := 4) (N := some 33) (v := ?_) (a' := ?_) #[T,T,T,T,T,F,F,F,T,F,T,F,F,F,F,F,F,F] rfl rfl (any_of HT_.out (by kernel_rfl)) (fun _ _ _ h => h) (Or.inl ⟨by rfl, ?_⟩) ?_ ?_; rotate_left
                 ·intro w'; go_simp; with_reducible rfl
                 rotate_left
                 ·simp only [PS]; rfl
                 refine pure_ (i := 5) (N := some 34) (v := ?_) (a' := ?_) #[T,T,T,T,T,T,F,F,T,F,T,F,F,F,F,F,F,F] rfl rfl (any_of HT_.out (by kernel_rfl)) (fun _ _ _ h => h) (Or.inl ⟨by rfl, ?_⟩) ?_ ?_; rotate_left
                 ·intro w'; go_simp; with_reducible rfl
                 rotate_left
                 ·simp only [PS]; rfl
                 refine take_ (i := 6) (N := some 35) (v := ?_) (a' := ?_) #[T,T,T,T,T,T,T,F,T,F,T,F,F,F,F,F,F,F] rfl rfl (take_ofW HT_.out HW_.out (by kernel_rfl)) (fun _ _ _ h => h) (Or.inl ⟨by rfl, ?_⟩) hHeld ?_ ?_; rotate_left
                 ·rintro w' ⟨s0, s1, s2, s3, s4, s5⟩; go_simp; with_reducible rfl
                 rotate_left
                 ·simp only [PS]; rfl
                 refine take_ (i := 9) (N := some 38) (v := ?_) (a' := ?_) #[T,T,T,T,T,T,T,F,T,T,T,F,F,F,F,F,F,F] rfl rfl (take_ofW HT_.out HW_.out (by kernel_rfl)) (fun _ _ _ h => h) (Or.inl ⟨by rfl, ?_⟩) hHeld ?_ ?_; rotate_left
                 ·rintro w' ⟨s0, s1, s2, s3, s4, s5⟩; go_simp; with_reducible rfl
                 rotate_left
                 ·simp only [PS]; rfl
                 refine pure_ (i := 11) (N := some 40) (v := ?_) (a' := ?_) #[T,T,T,T,T,T,T,F,T,T,T,T,F,F,F,F,F,F] rfl rfl (any_of HT_.out (by kernel_rfl)) (fun _ _ _ h => h) (Or.inl ⟨by rfl, ?_⟩) ?_ ?_; rotate_left
                 ·intro w'; go_simp; with_reducible rfl
                 rotate_left
                 ·simp only [PS]; rfl
                 refine pure_ (i := 12) (N := some 41) (v := ?_) (a' := ?_) #[T,T,T,T,T,T,T,F,T,T,T,T,T,F,F,F,F,F] rfl rfl (any_of HT_.out (by kernel_rfl)) (fun _ _ _ h => h) (Or.inl ⟨by rfl, ?_⟩) ?_ ?_; rotate_left
                 ·intro w'; go_simp; with_reducible rfl
                 rotate_left
                 ·simp only [PS]; rfl
                 refine take_ (i := 13) (N := some 42) (v := ?_) (a' := ?_) #[T,T,T,T,T,T,T,F,T,T,T,T,T,T,F,F,F,F] rfl rfl (take_ofW HT_.out HW_.out (by kernel_rfl)) (fun _ _ _ h => h) (Or.inl ⟨by rfl, ?_⟩) hHeld ?_ ?_; rotate_left
                 ·rintro w' ⟨s0, s1, s2, s3, s4, s5⟩; go_simp; with_reducible rfl
                 rotate_left
                 ·simp only [PS]; rfl
                 refine one_ (i := 7) (N := some 36) #[T,T,T,T,T,T,T,T,T,T,T,T,T,T,F,F,F,F] rfl rfl (one_of HT_.out (by kernel_rfl)) (by decide) (fun K hK => ?_)
                 refine goes_ Tryd.func36 (by kernel_rfl) rfl #[.int .i64 ((rd_T55 l0_1 x5_2).f0)] (by rfl) rfl rfl lm_ ?_
                 with_reducible (refine (impl_Decimal.calls ((rd_T55 l0_1 x5_2).f0) t123 _ ?hT_ A21.out).mono ?_); (case hT_ => exact Tab.Is.below HTB_.out bS)
                 rintro e w25 ⟨rfl, hb⟩
                 refine ⟨_, rfl, ?_⟩
                 replace HO_4 := Aside0.mk (Kd.R_below (rr_ HO_4.out) hb)
                 replace BK114 := Aside0.mk (blk_below (bk_ BK114.out) hb)
                 replace HB := Aside0.mk (below_step bS hb)
                 (try clear hb); (try clear hb2); (try clear hk); (try clear hi)
                 refine hK.out _ _ ⟨(blk_cell BK114.out 0).trans rfl, (blk_cell BK114.out 1).trans rfl, ((HB.out.cell (World.block_lt_of_cell? w _ hw122_0)).trans hw122_0), ((HB.out.cell (World.block_lt_of_cell? w _ hw122_1)).trans hw122_1), ((HB.out.cell (World.block_lt_of_cell? w _ hw124_0)).trans hw124_0), ((HB.out.cell (World.block_lt_of_cell? w _ hw124_1)).trans hw124_1)⟩ (fun hHeld => ?_)
                 clear hK K
                 refine norm_ (a' := ?_) ?_ ?_; rotate_left
                 ·show Act.put _ (some 36) _ = _
                  simp only [PS]
                  rfl
                 refine one_ (i := 14) (N := some 43) #[T,T,T,T,T,T,T,T,T,T,T,T,T,T,T,F,F,F] rfl rfl (one_of HT_.out (by kernel_rfl)) (by decide) (fun K hK => ?_)
                 refine goes_ Tryd.func36 (by kernel_rfl) rfl #[.int .i64 ((rd_T55 l0_1 x5_2).f1)] (by rfl) rfl rfl lm_ ?_
                 with_reducible (refine (impl_Decimal.calls ((rd_T55 l0_1 x5_2).f1) t125 _ ?hT_ A22.out).mono ?_); (case hT_ => exact Tab.Is.below HTB_.out bS)
                 rintro e w26 ⟨rfl, hb⟩
                 refine ⟨_, rfl, ?_⟩
                 replace HO_4 := Aside0.mk (Kd.R_below (rr_ HO_4.out) hb)
                 replace BK114 := Aside0.mk (blk_below (bk_ BK114.out) hb)
                 replace HB := Aside0.mk (below_step bS hb)
                 (try clear hb); (try clear hb2); (try clear hk); (try clear hi)
                 refine hK.out _ _ ⟨(blk_cell BK114.out 0).trans rfl, (blk_cell BK114.out 1).trans rfl, ((HB.out.cell (World.block_lt_of_cell? w _ hw122_0)).trans hw122_0), ((HB.out.cell (World.block_lt_of_cell? w _ hw122_1)).trans hw122_1), ((HB.out.cell (World.block_lt_of_cell? w _ hw124_0)).trans hw124_0), ((HB.out.cell (World.block_lt_of_cell? w _ hw124_1)).trans hw124_1)⟩ (fun hHeld => ?_)
                 clear hK K
                 refine norm_ (a' := ?_) ?_ ?_; rotate_left
                 ·show Act.put _ (some 43) _ = _
                  simp only [PS]
                  rfl
                 refine one_ (i := 15) (N := some 44) #[T,T,T,T,T,T,T,T,T,T,T,T,T,T,T,T,F,F] rfl rfl (one_of HT_.out (by kernel_rfl)) (by decide) (fun K hK => ?_)
                 refine Kd.R_lit_step Kd.string _ 9 ?hg (N := 44) ?hd (xs := ([t123, t125] : List ByteArray)) (inner := [.string t123, .string t125]) (ok := fun _ => True) (okp := fun _ => True) ?hr ?hp (fun _ hk => hk) trivial (Below.refl _ _) (Nat.le_refl _) (by simp) ?_; (case hd => rfl); (case hg => rfl); (case hr => first | (go_simp; done) | (go_simp; rfl)); (case hp => exact (Reps.one (show Kd.M Kd.string _ _ _ t123 [.string t123] from rfl) (Reps.one (show Kd.M Kd.string _ _ _ t125 [.string t125] from rfl) (Reps.none _ _))))
                 intro v127 w27 ho28 hb hg_ hnew_
                 clear hg_ hnew_
                 (first | rw [← Ny126.out] at ho28 | (simp only [Int.reduceToNat] at ho28; rw [← Ny126.out] at ho28))
                 have HO128 := Aside0.mk (Kd.R_lower (Kd.R_new' ho28 (Kd.R_lt (rr_ HO_4.out))) (below_size bS))
                 replace HO_4 := Aside0.mk (Kd.R_elder' (rr_ HO_4.out) (Kd.R_base ho28) hb)
                 replace BK114 := Aside0.mk (blk_below (bk_ BK114.out) hb)
                 replace HB := Aside0.mk (below_step bS hb)
                 clear hb ho28
                 obtain ⟨Ao30, co30, eo30⟩ := Kd.R_slice HO128.out
                 (first | subst eo30 | (injection eo30 with f1_ f2_ f3_; have f4_ := f1_.symm; have f5_ := f3_.symm; clear f1_ f2_ f3_; subst f4_; subst f5_))
                 refine hK.out _ _ ⟨(blk_cell BK114.out 0).trans rfl, (blk_cell BK114.out 1).trans rfl, ((HB.out.cell (World.block_lt_of_cell? w _ hw122_0)).trans hw122_0), ((HB.out.cell (World.block_lt_of_cell? w _ hw122_1)).trans hw122_1), ((HB.out.cell (World.block_lt_of_cell? w _ hw124_0)).trans hw124_0), ((HB.out.cell (World.block_lt_of_cell? w _ hw124_1)).trans hw124_1)⟩ (fun hHeld => ?_)
                 clear hK K
                 refine norm_ (a' := ?_) ?_ ?_; rotate_left
                 ·show Act.put _ (some 44) _ = _
                  simp only [PS]
                  rfl
                 refine one_ (i := 16) (N := some 45) #[T,T,T,T,T,T,T,T,T,T,T,T,T,T,T,T,T,F] rfl rfl (one_of HT_.out (by kernel_rfl)) (by decide) (fun K hK => ?_)
                 refine Kd.R_append_rows_step Kd.string (w0 := w) w.heap.size (by rfl) (.tmp 29) (.tmp 44) 22 9 (.string ⟨#[]⟩) 16 rfl Tryd.underlying22 info9 rfl (by decide) (by omega) u4 x4_2 y126 _ _ _ (fun k_ => some k_ ≠ (.slice Ao30 y126.length co30 : Value).ownBlock) (fun _ => False) rfl rfl ?aO ?aR (fun _ _ h => h) (fun _ h => h.elim) ?aF ?aB ?aS ?aL ?_
                 (case aR => exact cc_ (Kd.R_reads' HO128.out).2.2)
                 (case aB => exact bS)
                 (case aF => exact (fun k_ hk => Kd.fresh' (Kd.R_lt (rr_ HO128.out)) k_ hk))
                 (case aO => exact (by refine rr_ ?_; exact Kd.R_mono HO_4.out (fun _ hk => hk.2)))
                 (case aS => exact (below_size bS))
                 (case aL => have := LMc23.out; omega)
                 intro v130 w29 ho hb hg hat
                 rw [← Ny129.out] at ho
                 have n0_ := Aside0.mk (blk_grown (bk_ BK114.out) hg (Kd.R_ne HO_4.out BK114.out (by decide)))
                 have n1_ := Aside0.mk (Kd.R_after (ok := (fun _ => True)) (rr_ HO128.out) hg hat)
                 have n2_ := Aside0.mk (hb)
                 have n3_ := Aside0.mk (ho)
                 clear BK114 HO128 HB HO_4
                 have BK114 := n0_
                 have HO128 := n1_
                 have HB := n2_
                 have HO131 := n3_
                 clear n0_ n1_ n2_ n3_ ho hb hg hat
                 refine hK.out _ _ ⟨(blk_cell BK114.out 0).trans rfl, (blk_cell BK114.out 1).trans rfl, ((HB.out.cell (World.block_lt_of_cell? w _ hw122_0)).trans hw122_0), ((HB.out.cell (World.block_lt_of_cell? w _ hw122_1)).trans hw122_1), ((HB.out.cell (World.block_lt_of_cell? w _ hw124_0)).trans hw124_0), ((HB.out.cell (World.block_lt_of_cell? w _ hw124_1)).trans hw124_1)⟩ (fun hHeld => ?_)
                 clear hK K
                 refine norm_ (a' := ?_) ?_ ?_; rotate_left
                 ·show Act.put _ (some 45) _ = _
                  simp only [PS]
                  rfl
                 refine pure_ (i := 17) (N := some 4) (v := ?_) (a' := ?_) #[T,T,T,T,T,T,T,T,T,T,T,T,T,T,T,T,T,T] rfl rfl (any_of HT_.out (by kernel_rfl)) (fun _ _ _ h => h) (Or.inl ⟨by rfl, ?_⟩) ?_ ?_; rotate_left
                 ·intro w'; go_simp; with_reducible rfl
                 rotate_left
                 ·simp only [PS]; rfl
                 refine done_ (done_of HT_.out (by kernel_rfl)) ?_
                 try go_wp2
                 go_roundg k2
                 case measure => have := HK1.out; have := HK2.out; omega
                 case rel => exact ⟨(y129), (wrap64 (x5_2 + 1)), (wrap64 (x27_2 + 1)), (by first | rfl | (simp; done) | (simp [*]; done)), (by first | rfl | (simp; done) | (simp [*]; done)), H', ⟨by have := HK1.out; have := HK2.out; omega⟩, ⟨by refine rr_ ?_; exact Kd.R_mono HO131.out (fun _ hk => trivial)⟩, ⟨bk_ BK114.out⟩, ⟨bS⟩⟩
                ·rw [if_neg c23] at H
                 exact absurd H (by simp)
               ·rw [if_neg c20] at H
                exact absurd H (by simp)
              ·rw [if_neg c19] at H
               exact absurd H (by simp)
             ·rw [if_neg c18] at H
              have c18b0 : decide (x27_2 < t121) = false := decide_eq_false c18
              clear c18
              have H' := Aside0.mk H
              clear H
              go_wp2
              go_roundg k2
              case measure => have := HK1.out; have := HK2.out; omega
              case rel => exact ⟨(x4_2), (x5_2), (wrap64 (x14_1 + 1)), (by first | rfl | (simp; done) | (simp [*]; done)), (by first | rfl | (simp; done) | (simp [*]; done)), H', ⟨by have := HK1.out; have := HK2.out; omega⟩, ⟨rr_ HO_4.out⟩, ⟨bk_ BK114.out⟩, ⟨bS⟩⟩
          ·rw [if_neg c15] at H
           exact absurd H (by simp)
         ·rw [if_neg c14] at H
          exact absurd H (by simp)
        ·rw [if_neg c13] at H
         exact absurd H (by simp)
       ·rw [if_neg c12] at H
        exact absurd H (by simp)
      ·rw [if_neg c10] at H
       exact absurd H (by simp)
     ·rw [if_neg c9] at H
      exact absurd H (by simp)
    ·rw [if_neg c8] at H
     have c8b0 : decide (x14_1 < (l0_0.length : Int)) = false := decide_eq_false c8
     clear c8
     replace H := Option.bind_eq_some_iff.mp H
     obtain ⟨t116, A310, H⟩ := H
     try dsimp only at H
     have A31 := Aside0.mk A310
     clear A310
     simp only [Option.some.injEq, Prod.mk.injEq] at H
     obtain ⟨rfl, rfl⟩ := H
     obtain ⟨Ao32, co32, eo32⟩ := Kd.R_slice HO_4.out
     subst eo32
     go_wp2_with (first | ((with_reducible refine gate_callee (f := 37) rfl ?_); refine goesL_ (some 51) rfl rfl Tryd.func37 (by kernel_rfl) rfl #[.slice Ao32 x4_1.length co32, .string (⟨#[32]⟩ : ByteArray)] rfl lm_ ?_; (with_reducible refine (strings_Join.calls _ _ x4_1 (⟨#[32]⟩ : ByteArray) t116 _ ?side1 ?side2 A31.out).mono ?_); (case side1 => exact cc_ (Kd.R_reads' HO_4.out).2.2); (case side2 => exact (Kd.R_reads' HO_4.out).2.1); rintro e w33 ⟨rfl, hb⟩; refine ⟨_, rfl, ?_⟩; replace HO_4 := Aside0.mk (Kd.R_below (rr_ HO_4.out) hb); replace BK114 := Aside0.mk (blk_below (bk_ BK114.out) hb); replace HB := Aside0.mk (below_step bS hb); (try clear hb)))
     go_ret2
     exact ⟨by first | rfl | (simp [errW_none, errW_some] <;> rfl) | (simp [*, errW_none, errW_some] <;> rfl), by exact bS⟩
 ·replace c3 := Bool.eq_false_iff.mpr c3
  subst c3
  have H1 : (some ((⟨#[]⟩ : ByteArray), false)) = some (r1, r2) := by rw [if_neg (show ¬ (false = true) by decide)] at H; exact H
  clear H
  have H := H1
  clear H1
  simp only [Option.some.injEq, Prod.mk.injEq] at H
  obtain ⟨rfl, rfl⟩ := H
  go_enter Tryd.func15, Tryd.ntmps15
  go_wp2_with (first | ((with_reducible refine gate_dst (N := 1) rfl ?_); refine box_event ?hg (N := 1) ?hd (cs := #[.slice A0_0 l0_0.length c0_0, .slice A0_1 l0_1.length c0_1]) (t := 37) ?hr ?_; (case hd => rfl); (case hg => rfl); (case hr => first | (go_simp; done) | (go_simp; rfl)); intro gb114 hg w34 hbox hb; have BK114 := Aside0.mk (hbox); have GW114 := Aside0.mk ((by rw [hg]; exact (below_size bS) : w.heap.size ≤ gb114)); have GE114 := Aside0.mk ((by rw [hg]; exact (below_size bS) : w.heap.size ≤ gb114)); replace HB := Aside0.mk (below_step bS hb); clear hb hbox hg; have hcz35_0 : w34.cell? ⟨gb114, 0, none⟩ = some (.slice A0_0 l0_0.length c0_0) := (blk_cell BK114.out 0).trans rfl; have hcz35_1 : w34.cell? ⟨gb114, 1, none⟩ = some (.slice A0_1 l0_1.length c0_1) := (blk_cell BK114.out 1).trans rfl; have hfz35_0 := blk_frozen BK114.out 0; have hfz35_1 := blk_frozen BK114.out 1) | ((with_reducible refine gate_callee (f := 24) rfl ?_); refine goesL_ (some 9) rfl rfl Tryd.func24 (by kernel_rfl) rfl #[.agg #[.slice A0_0 l0_0.length c0_0, .slice A0_1 l0_1.length c0_1]] rfl lm_ ?_; (with_reducible refine (impl_PathOk.calls k _ _ l0_0 _ _ l0_1 false _ ?side1 ?side2 ?side3 ?side4 A2.out).mono ?_); (case side1 => exact cc_ (Kd.C_below HR0_0.out HB.out)); (case side2 => exact HC0_0.out); (case side3 => exact cc_ (Kd.C_below HR0_1.out HB.out)); (case side4 => exact HC0_1.out); rintro e w36 ⟨rfl, hb⟩; refine ⟨_, rfl, ?_⟩; replace BK114 := Aside0.mk (blk_below (bk_ BK114.out) hb); replace HB := Aside0.mk (below_step bS hb); (try clear hb)))
  go_ret2
  exact ⟨by first | rfl | (simp [errW_none, errW_some] <;> rfl) | (simp [*, errW_none, errW_some] <;> rfl), by exact bS⟩

/-! ### spec_l01In: function 57 -/
def spec_l01In.f (a0 : Int) (a1 : Int) (a2 : Int) : Option (Bool) := if a0 ≥ a1 then (some (decide (a0 ≤ a2))) else (some false)
set_option maxHeartbeats 8000000 in
set_option maxRecDepth 100000 in
theorem spec_l01In.calls (a0 : Int) (a1 : Int) (a2 : Int) (r : Bool) (w : World) (h : spec_l01In.f a0 a1 a2 = some r) :
    Calls Tryd.prog 57 #[.int .i64 a0, .int .i64 a1, .int .i64 a2] w fun e w' => e = .returned (.bool r) ∧ Drawn0 w w' := by
 have H : (if a0 ≥ a1 then (some (decide (a0 ≤ a2))) else (some false)) = some r := h
 clear h
 by_cases c4 : a0 ≥ a1
 ·rw [if_pos c4] at H
  have c4b0 : decide (a1 ≤ a0) = true := decide_eq_true c4
  clear c4
  obtain rfl := Option.some.inj H
  go_enter Tryd.func57, Tryd.ntmps57
  go_wp2
  go_ret
  exact ⟨by first | rfl | (simp; done) | (simp [*]; done), by repeat (first | exact Drawn0.refl _ | apply Drawn0.step)⟩
 ·rw [if_neg c4] at H
  have c4b0 : decide (a1 ≤ a0) = false := decide_eq_false c4
  clear c4
  obtain rfl := Option.some.inj H
  go_enter Tryd.func57, Tryd.ntmps57
  go_wp2
  go_ret
  exact ⟨by first | rfl | (simp; done) | (simp [*]; done), by repeat (first | exact Drawn0.refl _ | apply Drawn0.step)⟩

/-! ### spec_NeedOf: function 32 -/
def spec_NeedOf.f (a0 : Int) : Option (Int) := (some (([1, 1, 2, 3, 0] : List Int) : List Int)).bind fun y132 => ((spec_l01In.f a0 1 5).bind fun t135 => (if t135 = true then (if 0 ≤ (wrap64 (a0 - 1)) then (if (wrap64 (a0 - 1)) < (y132.length : Int) then (some (rd y132 (wrap64 (a0 - 1)))) else (none)) else (none)) else (some (-1))))
set_option maxHeartbeats 8000000 in
set_option maxRecDepth 100000 in
theorem spec_NeedOf.calls (a0 : Int) (r : Int) (w : World) (h : spec_NeedOf.f a0 = some r) :
    Calls Tryd.prog 32 #[.int .i64 a0] w fun e w' => e = .returned (.int .i64 r) ∧ Below w.heap.size w w' := by
 have HB := Aside0.mk (Below.refl w.heap.size w)
 have H : ((some (([1, 1, 2, 3, 0] : List Int) : List Int)).bind fun y132 => ((spec_l01In.f a0 1 5).bind fun t135 => (if t135 = true then (if 0 ≤ (wrap64 (a0 - 1)) then (if (wrap64 (a0 - 1)) < (y132.length : Int) then (some (rd y132 (wrap64 (a0 - 1)))) else (none)) else (none)) else (some (-1))))) = some r := h
 clear h
 obtain ⟨y132, hy132⟩ : ∃ y_ : List Int, y_ = (([1, 1, 2, 3, 0] : List Int)) := ⟨_, rfl⟩
 replace H : ((spec_l01In.f a0 1 5).bind fun t135 => (if t135 = true then (if 0 ≤ (wrap64 (a0 - 1)) then (if (wrap64 (a0 - 1)) < (y132.length : Int) then (some (rd y132 (wrap64 (a0 - 1)))) else (none)) else (none)) else (some (-1)))) = some r := by first | (rw [hy132]; with_reducible exact H) | (have H2_ := (Option.bind_some _ _).symm.trans H; rw [hy132]; with_reducible exact H2_) | (have H2_ := (Option.bind_some _ _).symm.trans H; with_reducible exact H2_) | with_reducible exact H | (rw [hy132]; exact H) | exact H
 have Ny132 := Aside0.mk hy132
 clear hy132
 replace H := Option.bind_eq_some_iff.mp H
 obtain ⟨t135, A20, H⟩ := H
 try dsimp only at H
 have A2 := Aside0.mk A20
 clear A20
 by_cases c3 : t135 = true
 ·subst c3
  have H1 : (if 0 ≤ (wrap64 (a0 - 1)) then (if (wrap64 (a0 - 1)) < (y132.length : Int) then (some (rd y132 (wrap64 (a0 - 1)))) else (none)) else (none)) = some r := by rw [if_pos rfl] at H; exact H
  clear H
  have H := H1
  clear H1
  obtain ⟨ji4, hji4⟩ : ∃ j_ : Int, (wrap64 (a0 - 1)) = j_ := ⟨_, rfl⟩
  replace H : (if 0 ≤ (ji4) then (if (ji4) < (y132.length : Int) then (some (rd y132 (ji4))) else (none)) else (none)) = some r := by first | (rw [hji4] at H; exact H) | (simp only [hji4] at H ⊢; exact H)
  (try rw [hji4] at A2)
  have hji4w : (IntKind.i64.wrap (a0 - 1)) = ji4 := (i64_w _).trans hji4
  by_cases c5 : 0 ≤ (ji4)
  ·rw [if_pos c5] at H
   have c5b0 : decide (0 ≤ (ji4)) = true := decide_eq_true c5
   clear c5
   by_cases c6 : (ji4) < (y132.length : Int)
   ·rw [if_pos c6] at H
    have c6b0 : decide ((ji4) < (y132.length : Int)) = true := decide_eq_true c6
    clear c6
    obtain rfl := Option.some.inj H
    go_enter Tryd.func32, Tryd.ntmps32
    go_wp2_with (first | ((with_reducible refine gate_dst (N := 4) rfl ?_); refine Kd.R_lit (Kd.int .i64) _ 3 ?hg (N := 4) ?hd (xs := ([1, 1, 2, 3, 0] : List Int)) (inner := [.int .i64 1, .int .i64 1, .int .i64 2, .int .i64 3, .int .i64 0]) (ok := fun _ => True) (okp := fun _ => True) ?hr ?hp (fun _ hk => hk) trivial (Below.refl _ _) (Nat.le_refl _) (by simp) ?_; (case hd => rfl); (case hg => rfl); (case hr => first | (go_simp; done) | (go_simp; rfl)); (case hp => exact (Reps.one (show Kd.M (Kd.int .i64) _ _ _ 1 [.int .i64 1] from rfl) (Reps.one (show Kd.M (Kd.int .i64) _ _ _ 1 [.int .i64 1] from rfl) (Reps.one (show Kd.M (Kd.int .i64) _ _ _ 2 [.int .i64 2] from rfl) (Reps.one (show Kd.M (Kd.int .i64) _ _ _ 3 [.int .i64 3] from rfl) (Reps.one (show Kd.M (Kd.int .i64) _ _ _ 0 [.int .i64 0] from rfl) (Reps.none _ _))))))); intro v133 w7 ho8 hb hg_ hnew_; clear hg_ hnew_; (first | rw [← Ny132.out] at ho8 | (simp only [Int.reduceToNat] at ho8; rw [← Ny132.out] at ho8)); have HO134 := Aside0.mk (Kd.R_lower ho8 (below_size bS)); replace HB := Aside0.mk (below_step bS hb); clear hb ho8) | ((with_reducible refine gate_callee (f := 57) rfl ?_); refine goesL_ (some 6) rfl rfl Tryd.func57 (by kernel_rfl) rfl #[.int .i64 a0, .int .i64 1, .int .i64 5] rfl lm_ ?_; (with_reducible refine (spec_l01In.calls a0 1 5 true _ A2.out).mono ?_); rintro e w' ⟨rfl, ⟨nd, rfl⟩⟩; refine ⟨_, rfl, ?_⟩; obtain ⟨Ao9, co9, eo9⟩ := Kd.R_slice HO134.out; subst eo9; have p136 : 0 ≤ ((ji4) : Int) := of_decide_eq_true as_; have q136 : (ji4) < (y132.length : Int) := of_decide_eq_true as_; obtain ⟨ad136, e136, hx136_0⟩ := Kd.at_int (Kd.R_reads' HO134.out).2.2 (ji4) p136 q136; cases e136; replace p136 := eq_true p136; replace q136 := eq_true q136))
    go_ret
    exact ⟨by first | rfl | (simp [errW_none, errW_some] <;> rfl) | (simp only [← hji4]; first | rfl | (simp [errW_none, errW_some] <;> rfl)) | (simp [*, errW_none, errW_some] <;> rfl), by exact bS⟩
   ·rw [if_neg c6] at H
    exact absurd H (by simp)
  ·rw [if_neg c5] at H
   exact absurd H (by simp)
 ·replace c3 := Bool.eq_false_iff.mpr c3
  subst c3
  have H1 : (some (-1)) = some r := by rw [if_neg (show ¬ (false = true) by decide)] at H; exact H
  clear H
  have H := H1
  clear H1
  obtain rfl := Option.some.inj H
  go_enter Tryd.func32, Tryd.ntmps32
  go_wp2_with (first | ((with_reducible refine gate_dst (N := 4) rfl ?_); refine Kd.R_lit (Kd.int .i64) _ 3 ?hg (N := 4) ?hd (xs := ([1, 1, 2, 3, 0] : List Int)) (inner := [.int .i64 1, .int .i64 1, .int .i64 2, .int .i64 3, .int .i64 0]) (ok := fun _ => True) (okp := fun _ => True) ?hr ?hp (fun _ hk => hk) trivial (Below.refl _ _) (Nat.le_refl _) (by simp) ?_; (case hd => rfl); (case hg => rfl); (case hr => first | (go_simp; done) | (go_simp; rfl)); (case hp => exact (Reps.one (show Kd.M (Kd.int .i64) _ _ _ 1 [.int .i64 1] from rfl) (Reps.one (show Kd.M (Kd.int .i64) _ _ _ 1 [.int .i64 1] from rfl) (Reps.one (show Kd.M (Kd.int .i64) _ _ _ 2 [.int .i64 2] from rfl) (Reps.one (show Kd.M (Kd.int .i64) _ _ _ 3 [.int .i64 3] from rfl) (Reps.one (show Kd.M (Kd.int .i64) _ _ _ 0 [.int .i64 0] from rfl) (Reps.none _ _))))))); intro v133 w10 ho11 hb hg_ hnew_; clear hg_ hnew_; (first | rw [← Ny132.out] at ho11 | (simp only [Int.reduceToNat] at ho11; rw [← Ny132.out] at ho11)); have HO134 := Aside0.mk (Kd.R_lower ho11 (below_size bS)); replace HB := Aside0.mk (below_step bS hb); clear hb ho11) | ((with_reducible refine gate_callee (f := 57) rfl ?_); refine goesL_ (some 6) rfl rfl Tryd.func57 (by kernel_rfl) rfl #[.int .i64 a0, .int .i64 1, .int .i64 5] rfl lm_ ?_; (with_reducible refine (spec_l01In.calls a0 1 5 false _ A2.out).mono ?_); rintro e w' ⟨rfl, ⟨nd, rfl⟩⟩; refine ⟨_, rfl, ?_⟩))
  go_ret
  exact ⟨by first | rfl | (simp [errW_none, errW_some] <;> rfl) | (simp [*, errW_none, errW_some] <;> rfl), by exact bS⟩

/-! ### spec_PointOk: function 49 -/
def spec_PointOk.f (a0_0 : Int) (a0_1 : Int) : Option (Bool) := (spec_l01In.f a0_0 (-8388608) 8388608).bind fun t138 => (if t138 = true then ((spec_l01In.f a0_1 (-8388608) 8388608).bind fun t139 => (some t139)) else (some false))
set_option maxHeartbeats 8000000 in
set_option maxRecDepth 100000 in
theorem spec_PointOk.calls (a0_0 : Int) (a0_1 : Int) (r : Bool) (w : World) (h : spec_PointOk.f a0_0 a0_1 = some r) :
    Calls Tryd.prog 49 #[.agg #[.int .i64 a0_0, .int .i64 a0_1]] w fun e w' => e = .returned (.bool r) ∧ Below w.heap.size w w' := by
 have hu55 := Tryd.underlying55
 have HB := Aside0.mk (Below.refl w.heap.size w)
 have H : ((spec_l01In.f a0_0 (-8388608) 8388608).bind fun t138 => (if t138 = true then ((spec_l01In.f a0_1 (-8388608) 8388608).bind fun t139 => (some t139)) else (some false))) = some r := h
 clear h
 replace H := Option.bind_eq_some_iff.mp H
 obtain ⟨t138, A20, H⟩ := H
 try dsimp only at H
 have A2 := Aside0.mk A20
 clear A20
 by_cases c3 : t138 = true
 ·subst c3
  have H1 : ((spec_l01In.f a0_1 (-8388608) 8388608).bind fun t139 => (some t139)) = some r := by rw [if_pos rfl] at H; exact H
  clear H
  have H := H1
  clear H1
  replace H := Option.bind_eq_some_iff.mp H
  obtain ⟨t139, A40, H⟩ := H
  try dsimp only at H
  have A4 := Aside0.mk A40
  clear A40
  obtain rfl := Option.some.inj H
  go_enter Tryd.func49, Tryd.ntmps49
  go_wp2_with (first | ((with_reducible refine gate_dst (N := 1) rfl ?_); refine box_event ?hg (N := 1) ?hd (cs := #[.int .i64 a0_0, .int .i64 a0_1]) (t := 55) ?hr ?_; (case hd => rfl); (case hg => rfl); (case hr => first | (go_simp; done) | (go_simp; rfl)); intro gb137 hg w5 hbox hb; have BK137 := Aside0.mk (hbox); have GW137 := Aside0.mk ((by rw [hg]; exact (below_size bS) : w.heap.size ≤ gb137)); have GE137 := Aside0.mk ((by rw [hg]; exact (below_size bS) : w.heap.size ≤ gb137)); replace HB := Aside0.mk (below_step bS hb); clear hb hbox hg; have hcz6_0 : w5.cell? ⟨gb137, 0, none⟩ = some (.int .i64 a0_0) := (blk_cell BK137.out 0).trans rfl; have hcz6_1 : w5.cell? ⟨gb137, 1, none⟩ = some (.int .i64 a0_1) := (blk_cell BK137.out 1).trans rfl; have hfz6_0 := blk_frozen BK137.out 0; have hfz6_1 := blk_frozen BK137.out 1) | ((with_reducible refine gate_callee (f := 57) rfl ?_); refine goesL_ (some 5) rfl rfl Tryd.func57 (by kernel_rfl) rfl #[.int .i64 a0_0, .int .i64 (-8388608), .int .i64 8388608] rfl lm_ ?_; (with_reducible refine (spec_l01In.calls a0_0 (-8388608) 8388608 true _ A2.out).mono ?_); rintro e w' ⟨rfl, ⟨nd, rfl⟩⟩; refine ⟨_, rfl, ?_⟩) | (go_at_call 57; (with_reducible refine (spec_l01In.calls a0_1 (-8388608) 8388608 t139 _ A4.out).mono ?_); rintro e w' ⟨rfl, ⟨nd, rfl⟩⟩))
  go_ret
  exact ⟨by first | rfl | (simp [errW_none, errW_some] <;> rfl) | (simp [*, errW_none, errW_some] <;> rfl), by exact bS⟩
 ·replace c3 := Bool.eq_false_iff.mpr c3
  subst c3
  have H1 : (some false) = some r := by rw [if_neg (show ¬ (false = true) by decide)] at H; exact H
  clear H
  have H := H1
  clear H1
  obtain rfl := Option.some.inj H
  go_enter Tryd.func49, Tryd.ntmps49
  go_wp2_with (first | ((with_reducible refine gate_dst (N := 1) rfl ?_); refine box_event ?hg (N := 1) ?hd (cs := #[.int .i64 a0_0, .int .i64 a0_1]) (t := 55) ?hr ?_; (case hd => rfl); (case hg => rfl); (case hr => first | (go_simp; done) | (go_simp; rfl)); intro gb137 hg w7 hbox hb; have BK137 := Aside0.mk (hbox); have GW137 := Aside0.mk ((by rw [hg]; exact (below_size bS) : w.heap.size ≤ gb137)); have GE137 := Aside0.mk ((by rw [hg]; exact (below_size bS) : w.heap.size ≤ gb137)); replace HB := Aside0.mk (below_step bS hb); clear hb hbox hg; have hcz8_0 : w7.cell? ⟨gb137, 0, none⟩ = some (.int .i64 a0_0) := (blk_cell BK137.out 0).trans rfl; have hcz8_1 : w7.cell? ⟨gb137, 1, none⟩ = some (.int .i64 a0_1) := (blk_cell BK137.out 1).trans rfl; have hfz8_0 := blk_frozen BK137.out 0; have hfz8_1 := blk_frozen BK137.out 1) | ((with_reducible refine gate_callee (f := 57) rfl ?_); refine goesL_ (some 5) rfl rfl Tryd.func57 (by kernel_rfl) rfl #[.int .i64 a0_0, .int .i64 (-8388608), .int .i64 8388608] rfl lm_ ?_; (with_reducible refine (spec_l01In.calls a0_0 (-8388608) 8388608 false _ A2.out).mono ?_); rintro e w' ⟨rfl, ⟨nd, rfl⟩⟩; refine ⟨_, rfl, ?_⟩))
  go_ret
  exact ⟨by first | rfl | (simp [errW_none, errW_some] <;> rfl) | (simp [*, errW_none, errW_some] <;> rfl), by exact bS⟩

end Go.Proofs.YtpmgfmalpijjbaaDoor.PFnPaths
