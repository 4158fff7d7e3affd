/- The walks of FnPaths, part 9: what the print wrote, with some proofs of the session's own. -/
import Derived.Test.YtpmgfmalpijjbaaDoorName
import Derived.Test.YtpmgfmalpijjbaaDoorShort
import Derived.Test.YtpmgfmalpijjbaaDoorQFnPathsx0
import Derived.Test.YtpmgfmalpijjbaaDoorQFnPathsx2
import Derived.Test.YtpmgfmalpijjbaaDoorQFnPathsx3
import Derived.Test.YtpmgfmalpijjbaaDoorQFnPathsx8
namespace Go.Proofs.YtpmgfmalpijjbaaDoor.PFnPaths
open Go.RowKit Go.Proofs.YtpmgfmalpijjbaaDoor.Short Go.Proofs.YtpmgfmalpijjbaaDoorW.PrintWords Go.Proofs.YtpmgfmalpijjbaaDoorW.PrintLast Go.Proofs.YtpmgfmalpijjbaaDoorW.PrintMore
attribute [local go_sem] max2_int min2_int max_two min_two max_three min_three max_four min_four   -- for this text's walks alone
set_option linter.unusedVariables false
set_option linter.unusedSimpArgs false

/-! ### impl_readPath: function 42 -/
mutual
def impl_readPath.l0 : Nat → List ByteArray → List Int → List (S55) → Option (List Int × (List (S55)) × Bool)
  | 0, _, _, _ => none
  | k + 1, x0, x211000, x211001 => if (x0.length : Int) > 0 then (if 0 < (x0.length : Int) then ((strings_Index.f (⟨#[77, 76, 81, 67, 90]⟩ : ByteArray) (rdOf ByteArray.empty x0 0)).bind fun t212 => (if ((rdOf ByteArray.empty x0 0).size : Int) = 1 then (if (wrap64 (t212 + 1)) = 0 then (impl_readPath.j1 k x0 (wrap64 (t212 + 1)) true x211000 x211001) else ((impl_NeedOf.f k (wrap64 (t212 + 1))).bind fun t214 => (impl_readPath.j1 k x0 (wrap64 (t212 + 1)) (decide ((x0.length : Int) < (wrap64 (1 + (wrap64 (2 * t214)))))) x211000 x211001))) else (impl_readPath.j1 k x0 (wrap64 (t212 + 1)) true x211000 x211001))) else (none)) else (some (x211000, x211001, true))
def impl_readPath.j1 : Nat → List ByteArray → Int → Bool → List Int → List (S55) → Option (List Int × (List (S55)) × Bool)
  | 0, _, _, _, _, _ => none
  | k + 1, x0, x5, x35, x211000, x211001 => if x35 = true then (some (([] : List Int), ([] : List (S55)), false)) else (if 1 ≤ (x0.length : Int) then (if x211000.length < 17592186044416 then ((impl_NeedOf.f k x5).bind fun t223 => (impl_readPath.l1 k (x0.drop 1) t223 0 (x211000 ++ [x5]) x211001)) else (none)) else (none))
def impl_readPath.l1 : Nat → List ByteArray → Int → Int → List Int → List (S55) → Option (List Int × (List (S55)) × Bool)
  | 0, _, _, _, _, _ => none
  | k + 1, x0, x46, x47, x211000, x211001 => if x47 < x46 then (if 0 < (x0.length : Int) then ((impl_readSigned.f k (rdOf ByteArray.empty x0 0)).bind fun bt225 => (if 1 < (x0.length : Int) then ((impl_readSigned.f k (rdOf ByteArray.empty x0 1)).bind fun bt228 => (if bt225.2 = true then (if bt228.2 = true then (if x211001.length < 8796093022208 then (if 2 ≤ (x0.length : Int) then (impl_readPath.l1 k (x0.drop 2) x46 (wrap64 (x47 + 1)) x211000 (x211001 ++ [(⟨bt225.1, bt228.1⟩ : S55)])) else (none)) else (none)) else (some (([] : List Int), ([] : List (S55)), false))) else (some (([] : List Int), ([] : List (S55)), false)))) else (none))) else (none)) else (impl_readPath.l0 k x0 x211000 x211001)
end
def impl_readPath.f (k : Nat) (l0 : List ByteArray) : Option (List Int × (List (S55)) × Bool) := impl_readPath.l0 k l0 ([] : List Int) ([] : List (S55))
theorem impl_readPath.mono_l : ∀ k, (∀ y0 y1 y2, LeO (impl_readPath.l0 k y0 y1 y2) (impl_readPath.l0 (k + 1) y0 y1 y2)) ∧ (∀ y0 y1 y2 y3 y4, LeO (impl_readPath.j1 k y0 y1 y2 y3 y4) (impl_readPath.j1 (k + 1) y0 y1 y2 y3 y4)) ∧ (∀ y0 y1 y2 y3 y4, LeO (impl_readPath.l1 k y0 y1 y2 y3 y4) (impl_readPath.l1 (k + 1) y0 y1 y2 y3 y4))
  | 0 => ⟨fun _ _ _ r h => by simp [impl_readPath.l0] at h, fun _ _ _ _ _ r h => by simp [impl_readPath.j1] at h, fun _ _ _ _ _ r h => by simp [impl_readPath.l1] at h⟩
  | k + 1 => by
    obtain ⟨ih0, ih1, ih2⟩ := impl_readPath.mono_l k
    refine ⟨?_, ?_, ?_⟩
    · intro y0 y1 y2
      unfold impl_readPath.l0
      repeat' first
      | (with_reducible exact ih0 _ _ _)
      | (with_reducible exact ih1 _ _ _ _ _)
      | (with_reducible exact ih2 _ _ _ _ _)
      | (with_reducible exact impl_NeedOf.mono _ _)
      | (with_reducible exact impl_readSigned.mono _ _)
      | (with_reducible exact LeO.refl _)
      | (with_reducible exact LeO.none _)
      | (with_reducible refine LeO.ite ?_ ?_)
      | (with_reducible refine LeO.bind ?_ (fun _ => ?_))
      | exact ih0 _ _ _
      | exact ih1 _ _ _ _ _
      | exact ih2 _ _ _ _ _
      | exact impl_NeedOf.mono _ _
      | exact impl_readSigned.mono _ _
      | exact LeO.none _
      | refine LeO.ite ?_ ?_
      | refine LeO.bind ?_ (fun _ => ?_)
    · intro y0 y1 y2 y3 y4
      unfold impl_readPath.j1
      repeat' first
      | (with_reducible exact ih0 _ _ _)
      | (with_reducible exact ih1 _ _ _ _ _)
      | (with_reducible exact ih2 _ _ _ _ _)
      | (with_reducible exact impl_NeedOf.mono _ _)
      | (with_reducible exact impl_readSigned.mono _ _)
      | (with_reducible exact LeO.refl _)
      | (with_reducible exact LeO.none _)
      | (with_reducible refine LeO.ite ?_ ?_)
      | (with_reducible refine LeO.bind ?_ (fun _ => ?_))
      | exact ih0 _ _ _
      | exact ih1 _ _ _ _ _
      | exact ih2 _ _ _ _ _
      | exact impl_NeedOf.mono _ _
      | exact impl_readSigned.mono _ _
      | exact LeO.none _
      | refine LeO.ite ?_ ?_
      | refine LeO.bind ?_ (fun _ => ?_)
    · intro y0 y1 y2 y3 y4
      unfold impl_readPath.l1
      repeat' first
      | (with_reducible exact ih0 _ _ _)
      | (with_reducible exact ih1 _ _ _ _ _)
      | (with_reducible exact ih2 _ _ _ _ _)
      | (with_reducible exact impl_NeedOf.mono _ _)
      | (with_reducible exact impl_readSigned.mono _ _)
      | (with_reducible exact LeO.refl _)
      | (with_reducible exact LeO.none _)
      | (with_reducible refine LeO.ite ?_ ?_)
      | (with_reducible refine LeO.bind ?_ (fun _ => ?_))
      | exact ih0 _ _ _
      | exact ih1 _ _ _ _ _
      | exact ih2 _ _ _ _ _
      | exact impl_NeedOf.mono _ _
      | exact impl_readSigned.mono _ _
      | exact LeO.none _
      | refine LeO.ite ?_ ?_
      | refine LeO.bind ?_ (fun _ => ?_)
theorem impl_readPath.mono : ∀ a0 k, LeO (impl_readPath.f k a0) (impl_readPath.f (k + 1) a0) := by
  intro a0 k
  obtain ⟨ih0, ih1, ih2⟩ := impl_readPath.mono_l k
  unfold impl_readPath.f
  repeat' first
      | (with_reducible exact ih0 _ _ _)
      | (with_reducible exact ih1 _ _ _ _ _)
      | (with_reducible exact ih2 _ _ _ _ _)
      | (with_reducible exact impl_NeedOf.mono _ _)
      | (with_reducible exact impl_readSigned.mono _ _)
      | (with_reducible exact LeO.refl _)
      | (with_reducible exact LeO.none _)
      | (with_reducible refine LeO.ite ?_ ?_)
      | (with_reducible refine LeO.bind ?_ (fun _ => ?_))
      | exact ih0 _ _ _
      | exact ih1 _ _ _ _ _
      | exact ih2 _ _ _ _ _
      | exact impl_NeedOf.mono _ _
      | exact impl_readSigned.mono _ _
      | exact LeO.none _
      | refine LeO.ite ?_ ?_
      | refine LeO.bind ?_ (fun _ => ?_)
set_option maxHeartbeats 8000000 in
set_option maxRecDepth 100000 in
theorem impl_readPath.calls (k : Nat) (P0_ : Nat → Prop) (A0 : Option Addr) (c0 : Nat) (l0 : List ByteArray) (r1 : List Int) (r2 : List (S55)) (r3 : Bool) (w : World) (hs0 : Kd.V Kd.string 9 w w.heap.size (fun k_ => P0_ k_) (.slice A0 l0.length c0) l0) (hT_ : Tab.Is w) (h : impl_readPath.f k l0 = some (r1, r2, r3)) :
    Calls Tryd.prog 42 #[.slice A0 l0.length c0] w fun e w' => ∃ v0_ v1_ : Value, e = .returned (.tuple #[.agg #[v0_, v1_], .bool r3]) ∧ Kd.R (Kd.int .i64) 3 w' w.heap.size (fun k_ => (w.heap.size ≤ k_)) v0_ r1 ∧ Kd.R k55 55 w' w.heap.size (fun k_ => (w.heap.size ≤ k_)) v1_ r2 ∧ Below w.heap.size w w' := by
 have HTB_ := Aside0.mk hT_
 clear hT_
 have hu37 := Tryd.underlying37
 have hu55 := Tryd.underlying55
 have HO0 := Aside0.mk (show Kd.V Kd.string 9 w w.heap.size (fun k_ => (P0_ k_ ∨ w.heap.size ≤ k_)) (.slice A0 l0.length c0) l0 from Kd.V_mono hs0 (fun k_ hk => .inl hk))
 have HB := Aside0.mk (Below.refl w.heap.size w)
 have H : (impl_readPath.l0 k l0 ([] : List Int) ([] : List (S55))) = some (r1, r2, r3) := h
 clear h
 have H' := Aside0.mk H
 clear H
 go_enter Tryd.func42, Tryd.ntmps42
 go_wp2_with (first | ((with_reducible refine gate_dst (N := 2) rfl ?_); (try (refine gate_guard (by rfl) ?_; dsimp only)); refine box_event ?hg (N := 2) ?hd (cs := #[.slice none 0 0, .slice none 0 0]) (t := 37) ?hr ?_; (case hd => rfl); (case hg => rfl); (case hr => first | (go_simp; done) | (go_simp; rfl)); intro gb209 hg w2 hbox hb; replace HO0 := Aside0.mk (Kd.V_below (Kd.V_elderB (by (with_reducible repeat (first | apply Kd.V_alloc | apply Kd.V_drewN | apply Kd.V_drew)); exact HO0.out) gb209 (Nat.le_of_eq hg.symm)) hb); have BK209 := Aside0.mk (hbox); have GW209 := Aside0.mk ((by rw [hg]; exact (below_size bS) : w.heap.size ≤ gb209)); have GE209 := Aside0.mk ((by rw [hg]; exact (below_size bS) : w.heap.size ≤ gb209)); replace HB := Aside0.mk (below_step bS hb); clear hb hbox hg) | ((with_reducible refine gate_dst (N := 4) rfl ?_); (try (refine gate_guard (by rfl) ?_; dsimp only)); refine box_event ?hg (N := 4) ?hd (cs := #[.slice none 0 0, .slice none 0 0]) (t := 37) ?hr ?_; (case hd => rfl); (case hg => rfl); (case hr => first | (go_simp; done) | (go_simp; rfl)); intro gb210 hg w3 hbox hb; replace HO0 := Aside0.mk (Kd.V_below (Kd.V_elderB (by (with_reducible repeat (first | apply Kd.V_alloc | apply Kd.V_drewN | apply Kd.V_drew)); exact HO0.out) gb210 (Nat.le_of_eq hg.symm)) hb); have BK210 := Aside0.mk (hbox); have GW210 := Aside0.mk ((by rw [hg]; exact (below_size bS) : w.heap.size ≤ gb210)); have GE210 := Aside0.mk ((by rw [hg]; exact (below_size bS) : w.heap.size ≤ gb210)); replace HB := Aside0.mk (below_step bS hb); have NB209_210 := Aside0.mk ((by rw [hg]; exact Nat.ne_of_lt (blk_lt (bk_ BK209.out)) : gb209 ≠ gb210)); have NB210_209 := Aside0.mk ((by rw [hg]; exact Nat.ne_of_gt (blk_lt (bk_ BK209.out)) : gb210 ≠ gb209)); replace BK209 := Aside0.mk (blk_below (bk_ BK209.out) hb); clear hb hbox hg))
 (try simp only [PQ])
 go_loopg [0] k (fun kq v0 w' => ∃ (x0_1 : List ByteArray) (x211000_1 : List Int) (x211001_1 : List (S55)) (u211000 : Value) (u211001 : Value), Aside0 (impl_readPath.l0 kq x0_1 x211000_1 x211001_1 = some (r1, r2, r3)) ∧ Aside0 (kq ≤ k) ∧ Aside0 (Kd.V Kd.string 9 w' w.heap.size (fun k_ => (P0_ k_ ∨ w.heap.size ≤ k_) ∧ some k_ ≠ (u211000 : Value).ownBlock ∧ some k_ ≠ (u211001 : Value).ownBlock ∧ k_ ≠ gb209 ∧ k_ ≠ gb210) v0 x0_1) ∧ Aside0 (Kd.R (Kd.int .i64) 3 w' w.heap.size (fun k_ => (w.heap.size ≤ k_)) u211000 x211000_1) ∧ Aside0 (Kd.R k55 55 w' w.heap.size (fun k_ => (w.heap.size ≤ k_)) u211001 x211001_1) ∧ Aside0 (w'.heap[gb209]? = some (.cells #[(.slice none 0 0), (.slice none 0 0)] 37 (0, 0))) ∧ Aside0 (w'.heap[gb210]? = some (.cells #[u211000, u211001] 37 (0, 0))) ∧ Aside0 (Below w.heap.size w w'))
 case atStart => exact ⟨(l0), (([] : List Int)), (([] : List (S55))), (.slice none 0 0), (.slice none 0 0), H', ⟨Nat.le_refl _⟩, ⟨by (with_reducible repeat (first | apply Kd.V_alloc | apply Kd.V_drewN | apply Kd.V_drew)); exact Kd.V_mono HO0.out (fun _ hk => ⟨hk.1.1, ⟨(by simp [Value.ownBlock]), ⟨(by simp [Value.ownBlock]), ⟨hk.1.2, hk.2⟩⟩⟩⟩)⟩, ⟨by first | exact Kd.R_nil _ _ _ _ _ | exact Kd.N_nil _ _ _ _ _ | exact Kd.V_nil _ _ _ _ _ | exact Kd.Q_nil _ _ _ _ _ | exact Kd.S_nil _ _ _ _ _⟩, ⟨by first | exact Kd.R_nil _ _ _ _ _ | exact Kd.N_nil _ _ _ _ _ | exact Kd.V_nil _ _ _ _ _ | exact Kd.Q_nil _ _ _ _ _ | exact Kd.S_nil _ _ _ _ _⟩, ⟨bk_ BK209.out⟩, ⟨bk_ BK210.out⟩, ⟨bS⟩⟩
 case round =>
  clear H'
  try clear p2
  obtain ⟨x0_1, x211000_1, x211001_1, u211000, u211001, HA, HK1, HO_0, HO_211000, HO_211001, BK209, BK210, HB⟩ := hrel
  cases gk with
  | zero => exact absurd HA.out (by simp [impl_readPath.l0])
  | succ k1 =>
   have H := HA.out
   clear HA
   simp only [impl_readPath.l0] at H
   by_cases c4 : (x0_1.length : Int) > 0
   ·rw [if_pos c4] at H
    have c4b0 : decide (0 < (x0_1.length : Int)) = true := decide_eq_true c4
    have c4b1 : decide (0 < x0_1.length) = true := decide_eq_true (by omega)
    clear c4
    by_cases c5 : 0 < (x0_1.length : Int)
    ·rw [if_pos c5] at H
     have c5b0 : decide (0 < (x0_1.length : Int)) = true := decide_eq_true c5
     have c5b1 : decide (0 < x0_1.length) = true := decide_eq_true (by omega)
     clear c5
     replace H := Option.bind_eq_some_iff.mp H
     obtain ⟨t212, A60, H⟩ := H
     try dsimp only at H
     have A6 := Aside0.mk A60
     clear A60
     have HC7 := Aside0.mk H
     clear H
     obtain ⟨Ao8, co8, eo8⟩ := Kd.V_slice HO_0.out
     subst eo8
     have p211 : 0 ≤ (0 : Int) := (by omega)
     have q211 : 0 < (x0_1.length : Int) := of_decide_eq_true as_
     obtain ⟨ad211, e211, hx211_0⟩ := Kd.at_string (Kd.V_reads' HO_0.out).2.2 0 p211 q211
     cases e211
     have qi211 : (0 < x0_1.length) = True := eq_true (by omega)
     (try rw [show ((0 : Int)).toNat = 0 from rfl] at hx211_0)
     (try rw [Addr.add_zero'] at hx211_0)
     replace p211 := eq_true p211
     replace q211 := eq_true q211
     go_upto_region 4 with (first | ((with_reducible refine gate_callee (f := 66) rfl ?_); refine goesL_ (some 16) rfl rfl Tryd.func66 (by kernel_rfl) rfl #[.string (⟨#[77, 76, 81, 67, 90]⟩ : ByteArray), .string (rdOf ByteArray.empty x0_1 0)] rfl lm_ ?_; (with_reducible refine (strings_Index.calls (⟨#[77, 76, 81, 67, 90]⟩ : ByteArray) (rdOf ByteArray.empty x0_1 0) t212 _ ?hT_ A6.out).mono ?_); (case hT_ => exact Tab.Is.below HTB_.out bS); rintro e w9 ⟨rfl, hb⟩; refine ⟨_, rfl, ?_⟩; replace HO_0 := Aside0.mk (Kd.V_below (by (with_reducible repeat (first | apply Kd.V_alloc | apply Kd.V_drewN | apply Kd.V_drew)); exact HO_0.out) hb); replace HO_211000 := Aside0.mk (Kd.R_below (rr_ HO_211000.out) hb); replace HO_211001 := Aside0.mk (Kd.R_below (rr_ HO_211001.out) hb); replace BK209 := Aside0.mk (blk_below (bk_ BK209.out) hb); replace BK210 := Aside0.mk (blk_below (bk_ BK210.out) hb); replace HB := Aside0.mk (below_step bS hb); (try clear hb)))
     (try simp only [PQ])
     go_cut [35] (fun v35 wc => ∃ (kq : Nat) (x35_6 : Bool), v35 = .bool x35_6 ∧ Aside0 (impl_readPath.j1 kq x0_1 (wrap64 (t212 + 1)) x35_6 x211000_1 x211001_1 = some (r1, r2, r3)) ∧ Aside0 (kq ≤ k1) ∧ Aside0 (Kd.V Kd.string 9 wc w.heap.size (fun k_ => (P0_ k_ ∨ w.heap.size ≤ k_) ∧ some k_ ≠ (u211000 : Value).ownBlock ∧ some k_ ≠ (u211001 : Value).ownBlock ∧ k_ ≠ gb209 ∧ k_ ≠ gb210) (.slice (some ad211) x0_1.length co8) x0_1) ∧ Aside0 (Kd.R (Kd.int .i64) 3 wc w.heap.size (fun k_ => (w.heap.size ≤ k_)) u211000 x211000_1) ∧ Aside0 (Kd.R k55 55 wc w.heap.size (fun k_ => (w.heap.size ≤ k_)) u211001 x211001_1) ∧ Aside0 (wc.heap[gb209]? = some (.cells #[(.slice none 0 0), (.slice none 0 0)] 37 (0, 0))) ∧ Aside0 (wc.heap[gb210]? = some (.cells #[u211000, u211001] 37 (0, 0))) ∧ Aside0 (Below w.heap.size w wc))
     case first =>
      have H := HC7.out
      clear HC7
      by_cases c10 : ((rdOf ByteArray.empty x0_1 0).size : Int) = 1
      ·rw [if_pos c10] at H
       have c10b0 : (((rdOf ByteArray.empty x0_1 0).size : Int) == 1) = true := beq_iff_eq.mpr c10
       have c10b1 : (((rdOf ByteArray.empty x0_1 0).size : Int) != 1) = false := bne_eq_false_iff_eq.mpr c10
       clear c10
       (first | rw [c10b0] | (simp only [i64_w, i32_w]; rw [c10b0]) | skip)
       by_cases c11 : (wrap64 (t212 + 1)) = 0
       ·rw [if_pos c11] at H
        have c11b0 : ((wrap64 (t212 + 1)) == 0) = true := beq_iff_eq.mpr c11
        have c11b1 : ((wrap64 (t212 + 1)) != 0) = false := bne_eq_false_iff_eq.mpr c11
        clear c11
        have H' := Aside0.mk H
        clear H
        have p213 : 0 ≤ (0 : Int) := (by omega)
        have q213 : 0 < (x0_1.length : Int) := of_decide_eq_true as_
        obtain ⟨ad213, e213, hx213_0⟩ := Kd.at_string (Kd.V_reads' HO_0.out).2.2 0 p213 q213
        obtain rfl : ad211 = ad213 := (by injection e213)
        have qi213 : (0 < x0_1.length) = True := eq_true (by omega)
        (try rw [show ((0 : Int)).toNat = 0 from rfl] at hx213_0)
        (try rw [Addr.add_zero'] at hx213_0)
        replace p213 := eq_true p213
        replace q213 := eq_true q213
        go_wp2
        go_meet
        case rel => exact ⟨_, (true), (by first | rfl | (simp; done) | (simp [*]; done)), H', ⟨by have := HK1.out; first | omega | exact Nat.le_refl _⟩, ⟨by (with_reducible repeat (first | apply Kd.V_alloc | apply Kd.V_drewN | apply Kd.V_drew)); exact HO_0.out⟩, ⟨rr_ HO_211000.out⟩, ⟨rr_ HO_211001.out⟩, ⟨bk_ BK209.out⟩, ⟨bk_ BK210.out⟩, ⟨bS⟩⟩
       ·rw [if_neg c11] at H
        have c11b0 : ((wrap64 (t212 + 1)) == 0) = false := beq_eq_false_iff_ne.mpr c11
        have c11b1 : ((wrap64 (t212 + 1)) != 0) = true := bne_iff_ne.mpr c11
        replace H := Option.bind_eq_some_iff.mp H
        obtain ⟨t214, A120, H⟩ := H
        try dsimp only at H
        have A12 := Aside0.mk A120
        clear A120
        have H' := Aside0.mk H
        clear H
        have p213 : 0 ≤ (0 : Int) := (by omega)
        have q213 : 0 < (x0_1.length : Int) := of_decide_eq_true as_
        obtain ⟨ad213, e213, hx213_0⟩ := Kd.at_string (Kd.V_reads' HO_0.out).2.2 0 p213 q213
        obtain rfl : ad211 = ad213 := (by injection e213)
        have qi213 : (0 < x0_1.length) = True := eq_true (by omega)
        (try rw [show ((0 : Int)).toNat = 0 from rfl] at hx213_0)
        (try rw [Addr.add_zero'] at hx213_0)
        replace p213 := eq_true p213
        replace q213 := eq_true q213
        go_wp2_with (first | (go_at_call 27; (with_reducible refine (impl_NeedOf.calls k1 (wrap64 (t212 + 1)) t214 _ A12.out).mono ?_); rintro e w' ⟨rfl, ⟨nd, rfl⟩⟩))
        go_meet
        case rel => exact ⟨_, (decide ((x0_1.length : Int) < (wrap64 (1 + (wrap64 (2 * t214)))))), (by first | rfl | (simp; done) | (simp [*]; done)), H', ⟨by have := HK1.out; first | omega | exact Nat.le_refl _⟩, ⟨by (with_reducible repeat (first | apply Kd.V_alloc | apply Kd.V_drewN | apply Kd.V_drew)); exact HO_0.out⟩, ⟨rr_ HO_211000.out⟩, ⟨rr_ HO_211001.out⟩, ⟨bk_ BK209.out⟩, ⟨bk_ BK210.out⟩, ⟨bS⟩⟩
      ·rw [if_neg c10] at H
       have c10b0 : (((rdOf ByteArray.empty x0_1 0).size : Int) == 1) = false := beq_eq_false_iff_ne.mpr c10
       have c10b1 : (((rdOf ByteArray.empty x0_1 0).size : Int) != 1) = true := bne_iff_ne.mpr c10
       (first | rw [c10b0] | (simp only [i64_w, i32_w]; rw [c10b0]) | skip)
       have H' := Aside0.mk H
       clear H
       have p213 : 0 ≤ (0 : Int) := (by omega)
       have q213 : 0 < (x0_1.length : Int) := of_decide_eq_true as_
       obtain ⟨ad213, e213, hx213_0⟩ := Kd.at_string (Kd.V_reads' HO_0.out).2.2 0 p213 q213
       obtain rfl : ad211 = ad213 := (by injection e213)
       have qi213 : (0 < x0_1.length) = True := eq_true (by omega)
       (try rw [show ((0 : Int)).toNat = 0 from rfl] at hx213_0)
       (try rw [Addr.add_zero'] at hx213_0)
       replace p213 := eq_true p213
       replace q213 := eq_true q213
       go_wp2
       go_meet
       case rel => exact ⟨_, (true), (by first | rfl | (simp; done) | (simp [*]; done)), H', ⟨by have := HK1.out; first | omega | exact Nat.le_refl _⟩, ⟨by (with_reducible repeat (first | apply Kd.V_alloc | apply Kd.V_drewN | apply Kd.V_drew)); exact HO_0.out⟩, ⟨rr_ HO_211000.out⟩, ⟨rr_ HO_211001.out⟩, ⟨bk_ BK209.out⟩, ⟨bk_ BK210.out⟩, ⟨bS⟩⟩
     case rest =>
      clear HC7
      try clear c1
      try clear p2
      try clear q2
      try clear hx2
      try clear qi2
      try clear c4
      try clear c4b0
      try clear c4b1
      try clear c5
      try clear c5b0
      try clear c5b1
      try clear c6
      try clear p6
      try clear c10
      try clear c10b0
      try clear c10b1
      try clear c11
      try clear c11b0
      try clear c11b1
      try clear hx211_0
      try clear hx213_0
      try clear p2
      try clear p211
      try clear p213
      try clear q211
      try clear q213
      obtain ⟨kq, x35_6, rfl, HA, HJ6, HO_0, HO_211000, HO_211001, BK209, BK210, HB⟩ := hcut
      cases kq with
      | zero => exact absurd HA.out (by simp [impl_readPath.j1])
      | succ kj6 =>
       have H := HA.out
       clear HA
       simp only [impl_readPath.j1] at H
       by_cases c13 : x35_6 = true
       ·subst c13
        have H1 : (some (([] : List Int), ([] : List (S55)), false)) = some (r1, r2, r3) := by rw [if_pos rfl] at H; exact H
        clear H
        have H := H1
        clear H1
        simp only [Option.some.injEq, Prod.mk.injEq] at H
        obtain ⟨rfl, rfl, rfl⟩ := H
        have hnb14 := NB209_210.out
        have hnc14 := NB210_209.out
        have hcz15_0 : wc.cell? ⟨gb209, 0, none⟩ = some (.slice none 0 0) := (blk_cell BK209.out 0).trans rfl
        have hcz15_1 : wc.cell? ⟨gb209, 1, none⟩ = some (.slice none 0 0) := (blk_cell BK209.out 1).trans rfl
        have hfz15_0 := blk_frozen BK209.out 0
        have hfz15_1 := blk_frozen BK209.out 1
        go_wp2
        refine bodyPost_ret (results_ct rfl _ _ gb209 37 #[.slice none 0 0, .slice none 0 0] (0, 0) _ rfl (by refine bk_ ?_; refine blk_put (cs := #[.slice none 0 0, .slice none 0 0]) ?_ 1 _ rfl; refine bk_ ?_; refine blk_put (cs := #[.slice none 0 0, .slice none 0 0]) ?_ 0 _ rfl; exact bk_ BK209.out) Tryd.underlying37 rfl (by kernel_rfl)) rfl ?_
        exact ⟨_, _, by first | rfl | (simp [errW_none, errW_some] <;> rfl) | (simp [*, errW_none, errW_some] <;> rfl), by first | exact Kd.R_nil _ _ _ _ _ | exact Kd.N_nil _ _ _ _ _ | exact Kd.V_nil _ _ _ _ _ | exact Kd.Q_nil _ _ _ _ _ | exact Kd.S_nil _ _ _ _ _, by first | exact Kd.R_nil _ _ _ _ _ | exact Kd.N_nil _ _ _ _ _ | exact Kd.V_nil _ _ _ _ _ | exact Kd.Q_nil _ _ _ _ _ | exact Kd.S_nil _ _ _ _ _, by exact bS⟩
       ·replace c13 := Bool.eq_false_iff.mpr c13
        subst c13
        have H1 : (if 1 ≤ (x0_1.length : Int) then (if x211000_1.length < 17592186044416 then ((impl_NeedOf.f kj6 (wrap64 (t212 + 1))).bind fun t223 => (impl_readPath.l1 kj6 (x0_1.drop 1) t223 0 (x211000_1 ++ [(wrap64 (t212 + 1))]) x211001_1)) else (none)) else (none)) = some (r1, r2, r3) := by rw [if_neg (show ¬ (false = true) by decide)] at H; exact H
        clear H
        have H := H1
        clear H1
        by_cases c16 : 1 ≤ (x0_1.length : Int)
        ·rw [if_pos c16] at H
         have c16b0 := eq_true c16
         have c16b1 : decide (1 ≤ (x0_1.length : Int)) = true := decide_eq_true c16
         clear c16
         obtain ⟨y215, hy215⟩ : ∃ y_ : List ByteArray, y_ = (x0_1.drop 1) := ⟨_, rfl⟩
         replace H : (if x211000_1.length < 17592186044416 then ((impl_NeedOf.f kj6 (wrap64 (t212 + 1))).bind fun t223 => (impl_readPath.l1 kj6 y215 t223 0 (x211000_1 ++ [(wrap64 (t212 + 1))]) x211001_1)) else (none)) = some (r1, r2, r3) := by first | (rw [hy215]; with_reducible exact H) | (have H2_ := (Option.bind_some _ _).symm.trans H; rw [hy215]; with_reducible exact H2_) | (have H2_ := (Option.bind_some _ _).symm.trans H; with_reducible exact H2_) | with_reducible exact H | (rw [hy215]; exact H) | exact H
         have Ny215 := Aside0.mk hy215
         clear hy215
         by_cases c17 : x211000_1.length < 17592186044416
         ·rw [if_pos c17] at H
          have LMc17 := Aside0.mk c17
          clear c17
          obtain ⟨y220, hy220⟩ : ∃ y_ : List Int, y_ = (x211000_1 ++ [(wrap64 (t212 + 1))]) := ⟨_, rfl⟩
          replace H : ((impl_NeedOf.f kj6 (wrap64 (t212 + 1))).bind fun t223 => (impl_readPath.l1 kj6 y215 t223 0 y220 x211001_1)) = some (r1, r2, r3) := by first | (rw [hy220]; with_reducible exact H) | (have H2_ := (Option.bind_some _ _).symm.trans H; rw [hy220]; with_reducible exact H2_) | (have H2_ := (Option.bind_some _ _).symm.trans H; with_reducible exact H2_) | with_reducible exact H | (rw [hy220]; exact H) | exact H
          have Ny220 := Aside0.mk hy220
          clear hy220
          replace H := Option.bind_eq_some_iff.mp H
          obtain ⟨t223, A180, H⟩ := H
          try dsimp only at H
          have A18 := Aside0.mk A180
          clear A180
          have H' := Aside0.mk H
          clear H
          have q19 : (1 : Int) ≤ ((x0_1.length : Int) : Int) := of_decide_eq_true as_
          obtain ⟨i019, hi019, _, hsz19, _⟩ := info_parts info9
          have hroom19 : x0_1.length ≤ co8 := (Kd.V_reads' HO_0.out).2.1
          have hC19 : Kd.F Kd.string _ _ (some ad211) x0_1.length x0_1 := (Kd.V_at (base := w.heap.size) HO_0.out).2.2
          have hcut19 := cut_from (P := Tryd.prog) 22 9 .i64 Tryd.underlying22 hi019 1 hsz19 (some ad211) x0_1.length co8 1 (by omega) q19
          have hr19 := Kd.F_cut (m := (1 : Int).toNat) (c := co8) hC19 (by omega) hroom19
          obtain ⟨A19, hA19⟩ : ∃ A1, A1 = (if co8 = (1 : Int).toNat then (some ad211) else ((some ad211) : Option Addr).map (·.add ((1 : Int).toNat * 1))) := ⟨_, rfl⟩
          obtain ⟨c19, hc19⟩ : ∃ c1, c1 = co8 - (1 : Int).toNat := ⟨_, rfl⟩
          have hy19 : y215.length = x0_1.length - (1 : Int).toNat := (by rw [Ny215.out, List.length_drop] <;> omega)
          rw [show (x0_1).drop (1 : Int).toNat = y215 from Ny215.out.symm] at hr19
          replace hr19 : Kd.F Kd.string _ _ A19 y215.length y215 := (by rw [hA19]; exact hr19)
          rw [← hy19, ← hA19, ← hc19] at hcut19
          have HO219 := Aside0.mk (show Kd.V Kd.string 9 _ w.heap.size _ (.slice A19 y215.length c19) y215 from Kd.V_mk (by rw [hy19, hc19]; exact Nat.sub_le_sub_right hroom19 _) hr19)
          have HC219 := Aside0.mk (show y215.length ≤ c19 from by rw [hy19, hc19]; exact Nat.sub_le_sub_right hroom19 _)
          clear hr19 hC19 hroom19 hi019 hsz19 hc19
          have KY19 := Aside0.mk hy19
          have KA19 := Aside0.mk hA19
          clear hy19 hA19
          replace q19 := eq_true q19
          have hnb20 := NB210_209.out
          have hnc20 := NB209_210.out
          have hcz21_0 : wc.cell? ⟨gb210, 0, none⟩ = some (u211000) := (blk_cell BK210.out 0).trans rfl
          have hcz21_1 : wc.cell? ⟨gb210, 1, none⟩ = some (u211001) := (blk_cell BK210.out 1).trans rfl
          have hfz21_0 := blk_frozen BK210.out 0
          have hfz21_1 := blk_frozen BK210.out 1
          go_wp2_with (first | ((with_reducible refine gate_builtin (b := .append) (xs := #[.tmp 40, .tmp 42]) rfl ?_); (try (refine gate_guard (by rfl) ?_; dsimp only)); at_builtin; refine Kd.R_append (Kd.int .i64) (w0 := w) w.heap.size rfl (.tmp 40) (.tmp 42) 28 3 (.int .i64 0) 8 rfl Tryd.underlying28 info3 rfl (by decide) (by omega) u211000 x211000_1 (wrap64 (t212 + 1)) [.int .i64 (wrap64 (t212 + 1))] (fun k_ => (w.heap.size ≤ k_)) (fun _ => False) rfl rfl ?aP (fun _ hk => hk.elim) ?aF ?aO ?aB ?aS ?aL ?_; (case aP => exact rfl); (case aB => exact bS); (case aF => exact (fun k_ hk => (Nat.le_trans (below_size bS) hk))); (case aO => exact (rr_ HO_211000.out)); (case aS => exact (below_size bS)); (case aL => have := LMc17.out; omega); intro v221 w22 ho hb hg hat; rw [← Ny220.out] at ho; have n0_ := Aside0.mk (Kd.V_afterv (ok := (fun k_ => (P0_ k_ ∨ w.heap.size ≤ k_) ∧ some k_ ≠ (u211001 : Value).ownBlock ∧ k_ ≠ gb209 ∧ k_ ≠ gb210)) (by (with_reducible repeat (first | apply Kd.V_alloc | apply Kd.V_drewN | apply Kd.V_drew)); exact Kd.V_mono HO_0.out (fun _ hk => ⟨⟨hk.1, ⟨hk.2.2.1, ⟨hk.2.2.2.1, hk.2.2.2.2⟩⟩⟩, hk.2.1⟩)) hg hat); have n1_ := Aside0.mk (Kd.R_over' (rr_ HO_211001.out) (Kd.R_typed (rr_ HO_211000.out)) (by decide) hg); have n2_ := Aside0.mk (blk_grown (bk_ BK209.out) hg (Kd.R_ne HO_211000.out BK209.out (by decide))); have n3_ := Aside0.mk (blk_grown (bk_ BK210.out) hg (Kd.R_ne HO_211000.out BK210.out (by decide))); have n4_ := Aside0.mk (Kd.V_afterv (ok := (fun k_ => (P0_ k_ ∨ w.heap.size ≤ k_) ∧ some k_ ≠ (u211001 : Value).ownBlock ∧ k_ ≠ gb209 ∧ k_ ≠ gb210)) (by (with_reducible repeat (first | apply Kd.V_alloc | apply Kd.V_drewN | apply Kd.V_drew)); exact Kd.V_mono HO219.out (fun _ hk => ⟨⟨hk.1, ⟨hk.2.2.1, ⟨hk.2.2.2.1, hk.2.2.2.2⟩⟩⟩, hk.2.1⟩)) hg hat); have n5_ := Aside0.mk (hb); have n6_ := Aside0.mk (ho); clear HO_0; clear HO_211001; clear BK209; clear BK210; clear HO219; clear HB; clear HO_211000; have HO_0 := n0_; have HO_211001 := n1_; have BK209 := n2_; have BK210 := n3_; have HO219 := n4_; have HB := n5_; have HO222 := n6_; clear n0_ n1_ n2_ n3_ n4_ n5_ n6_; clear ho hb hg hat; obtain ⟨Ao23, co23, eo23⟩ := Kd.R_slice HO222.out; subst eo23; have hcz24_0 : w22.cell? ⟨gb210, 0, none⟩ = some (u211000) := (blk_cell BK210.out 0).trans rfl; have hcz24_1 : w22.cell? ⟨gb210, 1, none⟩ = some (u211001) := (blk_cell BK210.out 1).trans rfl; have hfz24_0 := blk_frozen BK210.out 0; have hfz24_1 := blk_frozen BK210.out 1) | ((with_reducible refine gate_callee (f := 27) rfl ?_); refine goesL_ (some 46) rfl rfl Tryd.func27 (by kernel_rfl) rfl #[.int .i64 (wrap64 (t212 + 1))] rfl lm_ ?_; (with_reducible refine (impl_NeedOf.calls kj6 (wrap64 (t212 + 1)) t223 _ A18.out).mono ?_); rintro e w' ⟨rfl, ⟨nd, rfl⟩⟩; refine ⟨_, rfl, ?_⟩))
          (try simp only [PQ])
          go_loopg [0, 47] kj6 (fun kq v0 v47 w' => ∃ (x0_3 : List ByteArray) (x47_3 : Int) (x211001_3 : List (S55)) (u211001 : Value), v47 = .int .i64 x47_3 ∧ Aside0 (impl_readPath.l1 kq x0_3 t223 x47_3 y220 x211001_3 = some (r1, r2, r3)) ∧ Aside0 (kq ≤ kj6) ∧ Aside0 (Kd.V Kd.string 9 w' w.heap.size (fun k_ => (P0_ k_ ∨ w.heap.size ≤ k_) ∧ some k_ ≠ ((.slice Ao23 y220.length co23) : Value).ownBlock ∧ some k_ ≠ (u211001 : Value).ownBlock ∧ k_ ≠ gb209 ∧ k_ ≠ gb210) v0 x0_3) ∧ Aside0 (Kd.R (Kd.int .i64) 3 w' w.heap.size (fun k_ => (w.heap.size ≤ k_)) (.slice Ao23 y220.length co23) y220) ∧ Aside0 (Kd.R k55 55 w' w.heap.size (fun k_ => (w.heap.size ≤ k_)) u211001 x211001_3) ∧ Aside0 (w'.heap[gb209]? = some (.cells #[(.slice none 0 0), (.slice none 0 0)] 37 (0, 0))) ∧ Aside0 (w'.heap[gb210]? = some (.cells #[(.slice Ao23 y220.length co23), u211001] 37 (0, 0))) ∧ Aside0 (Below w.heap.size w w'))
          case atStart => exact ⟨(y215), (0), (x211001_1), (u211001), (by first | rfl | (simp; done) | (simp [*]; done)), H', ⟨Nat.le_refl _⟩, ⟨by (with_reducible repeat (first | apply Kd.V_alloc | apply Kd.V_drewN | apply Kd.V_drew)); exact Kd.V_mono (Kd.V_far (p := ⟨gb210, 0, none⟩) (Kd.V_mono HO219.out (fun k_ hk => (⟨hk, hk.1.2.2.2⟩ : _ ∧ k_ ≠ gb210))) (fun _ hk => hk.2) (.slice Ao23 y220.length co23)) (fun _ hk => ⟨hk.1.1.1, ⟨hk.1.2, ⟨hk.1.1.2.1, ⟨hk.1.1.2.2.1, hk.1.1.2.2.2⟩⟩⟩⟩)⟩, ⟨by refine rr_ ?_; exact Kd.R_mono (Kd.R_far (p := ⟨gb210, 0, none⟩) (Kd.R_types HO222.out BK210.out (by decide)) (fun _ hk => hk.2) (.slice Ao23 y220.length co23)) (fun _ hk => hk.1)⟩, ⟨by refine rr_ ?_; exact Kd.R_mono (Kd.R_far (p := ⟨gb210, 0, none⟩) (Kd.R_types HO_211001.out BK210.out (by decide)) (fun _ hk => hk.2) (.slice Ao23 y220.length co23)) (fun _ hk => hk.1)⟩, ⟨bf_ BK209.out⟩, ⟨by refine bk_ ?_; refine blk_put (cs := #[u211000, u211001]) ?_ 0 _ rfl; exact bk_ BK210.out⟩, ⟨bS⟩⟩
          case round =>
           clear H'
           try clear c1
           try clear q1
           try clear c2
           try clear p2
           try clear q2
           try clear hx2
           try clear qi2
           try clear c4
           try clear c4b0
           try clear c4b1
           try clear c5
           try clear c5b0
           try clear c5b1
           try clear c6
           try clear p6
           try clear c10
           try clear c10b0
           try clear c10b1
           try clear c11
           try clear c11b0
           try clear c11b1
           try clear c13
           try clear c14
           try clear c16
           try clear c16b0
           try clear c16b1
           try clear c17
           try clear c19
           try clear q19
           try clear c20
           try clear p21
           try clear q21
           try clear hx21
           try clear qi21
           try clear hcz15_0
           try clear hcz15_1
           try clear hcz21_0
           try clear hcz21_1
           try clear hcz24_0
           try clear hcz24_1
           try clear hfz15_0
           try clear hfz15_1
           try clear hfz21_0
           try clear hfz21_1
           try clear hfz24_0
           try clear hfz24_1
           try clear hx211_0
           try clear hx213_0
           try clear p2
           try clear p211
           try clear p213
           try clear p6
           try clear q19
           try clear q2
           try clear q211
           try clear q213
           obtain ⟨x0_3, x47_3, x211001_3, u211001, rfl, HA, HK3, HO_0, HO_211000, HO_211001, BK209, BK210, HB⟩ := hrel
           cases gk with
           | zero => exact absurd HA.out (by simp [impl_readPath.l1])
           | succ k3 =>
            have H := HA.out
            clear HA
            simp only [impl_readPath.l1] at H
            by_cases c25 : x47_3 < t223
            ·rw [if_pos c25] at H
             have c25b0 : decide (x47_3 < t223) = true := decide_eq_true c25
             clear c25
             by_cases c26 : 0 < (x0_3.length : Int)
             ·rw [if_pos c26] at H
              have c26b0 : decide (0 < (x0_3.length : Int)) = true := decide_eq_true c26
              have c26b1 : decide (0 < x0_3.length) = true := decide_eq_true (by omega)
              clear c26
              replace H := Option.bind_eq_some_iff.mp H
              obtain ⟨⟨t225, t226⟩, A270, H⟩ := H
              try dsimp only at H
              have A27 := Aside0.mk A270
              clear A270
              by_cases c28 : 1 < (x0_3.length : Int)
              ·rw [if_pos c28] at H
               have c28b0 : decide (1 < (x0_3.length : Int)) = true := decide_eq_true c28
               have c28b1 : decide (1 < x0_3.length) = true := decide_eq_true (by omega)
               clear c28
               replace H := Option.bind_eq_some_iff.mp H
               obtain ⟨⟨t228, t229⟩, A290, H⟩ := H
               try dsimp only at H
               have A29 := Aside0.mk A290
               clear A290
               by_cases c30 : t226 = true
               ·subst c30
                have H1 : (if t229 = true then (if x211001_3.length < 8796093022208 then (if 2 ≤ (x0_3.length : Int) then (impl_readPath.l1 k3 (x0_3.drop 2) t223 (wrap64 (x47_3 + 1)) y220 (x211001_3 ++ [(⟨t225, t228⟩ : S55)])) else (none)) else (none)) else (some (([] : List Int), ([] : List (S55)), false))) = some (r1, r2, r3) := by rw [if_pos rfl] at H; exact H
                clear H
                have H := H1
                clear H1
                by_cases c31 : t229 = true
                ·subst c31
                 have H1 : (if x211001_3.length < 8796093022208 then (if 2 ≤ (x0_3.length : Int) then (impl_readPath.l1 k3 (x0_3.drop 2) t223 (wrap64 (x47_3 + 1)) y220 (x211001_3 ++ [(⟨t225, t228⟩ : S55)])) else (none)) else (none)) = some (r1, r2, r3) := by rw [if_pos rfl] at H; exact H
                 clear H
                 have H := H1
                 clear H1
                 by_cases c32 : x211001_3.length < 8796093022208
                 ·rw [if_pos c32] at H
                  have LMc32 := Aside0.mk c32
                  clear c32
                  obtain ⟨y230, hy230⟩ : ∃ y_ : List (S55), y_ = (x211001_3 ++ [(⟨t225, t228⟩ : S55)]) := ⟨_, rfl⟩
                  replace H : (if 2 ≤ (x0_3.length : Int) then (impl_readPath.l1 k3 (x0_3.drop 2) t223 (wrap64 (x47_3 + 1)) y220 y230) else (none)) = some (r1, r2, r3) := by first | (rw [hy230]; with_reducible exact H) | (have H2_ := (Option.bind_some _ _).symm.trans H; rw [hy230]; with_reducible exact H2_) | (have H2_ := (Option.bind_some _ _).symm.trans H; with_reducible exact H2_) | with_reducible exact H | (rw [hy230]; exact H) | exact H
                  have Ny230 := Aside0.mk hy230
                  clear hy230
                  by_cases c33 : 2 ≤ (x0_3.length : Int)
                  ·rw [if_pos c33] at H
                   have c33b0 := eq_true c33
                   have c33b1 : decide (2 ≤ (x0_3.length : Int)) = true := decide_eq_true c33
                   clear c33
                   obtain ⟨y233, hy233⟩ : ∃ y_ : List ByteArray, y_ = (x0_3.drop 2) := ⟨_, rfl⟩
                   replace H : (impl_readPath.l1 k3 y233 t223 (wrap64 (x47_3 + 1)) y220 y230) = some (r1, r2, r3) := by first | (rw [hy233]; with_reducible exact H) | (have H2_ := (Option.bind_some _ _).symm.trans H; rw [hy233]; with_reducible exact H2_) | (have H2_ := (Option.bind_some _ _).symm.trans H; with_reducible exact H2_) | with_reducible exact H | (rw [hy233]; exact H) | exact H
                   have Ny233 := Aside0.mk hy233
                   clear hy233
                   have H' := Aside0.mk H
                   clear H
                   obtain ⟨Ao34, co34, eo34⟩ := Kd.V_slice HO_0.out
                   subst eo34
                   have p224 : 0 ≤ (0 : Int) := (by omega)
                   have q224 : 0 < (x0_3.length : Int) := of_decide_eq_true as_
                   obtain ⟨ad224, e224, hx224_0⟩ := Kd.at_string (Kd.V_reads' HO_0.out).2.2 0 p224 q224
                   cases e224
                   have qi224 : (0 < x0_3.length) = True := eq_true (by omega)
                   (try rw [show ((0 : Int)).toNat = 0 from rfl] at hx224_0)
                   (try rw [Addr.add_zero'] at hx224_0)
                   replace p224 := eq_true p224
                   replace q224 := eq_true q224
                   go_wp2_with (first | ((with_reducible refine gate_callee (f := 67) rfl ?_); refine goesL_ (some 53) rfl rfl Tryd.func67 (by kernel_rfl) rfl #[.string (rdOf ByteArray.empty x0_3 0)] rfl lm_ ?_; (with_reducible refine (impl_readSigned.calls k3 (rdOf ByteArray.empty x0_3 0) t225 true _ ?hT_ A27.out).mono ?_); (case hT_ => exact Tab.Is.below HTB_.out bS); rintro e w35 ⟨rfl, hb⟩; refine ⟨_, rfl, ?_⟩; replace HO_0 := Aside0.mk (Kd.V_below (by (with_reducible repeat (first | apply Kd.V_alloc | apply Kd.V_drewN | apply Kd.V_drew)); exact HO_0.out) hb); replace HO_211000 := Aside0.mk (Kd.R_below (rr_ HO_211000.out) hb); replace HO_211001 := Aside0.mk (Kd.R_below (rr_ HO_211001.out) hb); replace BK209 := Aside0.mk (blk_below (bk_ BK209.out) hb); replace BK210 := Aside0.mk (blk_below (bk_ BK210.out) hb); replace HB := Aside0.mk (below_step bS hb); (try clear hb); have p227 : 0 ≤ (1 : Int) := (by omega); have q227 : 1 < (x0_3.length : Int) := of_decide_eq_true as_; obtain ⟨ad227, e227, hx227_0⟩ := Kd.at_string (Kd.V_reads' HO_0.out).2.2 1 p227 q227; obtain rfl : ad224 = ad227 := (by injection e227); (try simp only [show (1 : Int).toNat = 1 from rfl, Nat.reduceMul, Nat.reduceEqDiff, Go.Addr.add, ↓reduceIte] at hx227_0); have qi227 : (1 < x0_3.length) = True := eq_true (by omega); (try rw [show ((1 : Int)).toNat = 1 from rfl] at hx227_0); replace p227 := eq_true p227; replace q227 := eq_true q227) | ((with_reducible refine gate_callee (f := 67) rfl ?_); refine goesL_ (some 60) rfl rfl Tryd.func67 (by kernel_rfl) rfl #[.string (rdOf ByteArray.empty x0_3 1)] rfl lm_ ?_; (with_reducible refine (impl_readSigned.calls k3 (rdOf ByteArray.empty x0_3 1) t228 true _ ?hT_ A29.out).mono ?_); (case hT_ => exact Tab.Is.below HTB_.out bS); rintro e w36 ⟨rfl, hb⟩; refine ⟨_, rfl, ?_⟩; replace HO_0 := Aside0.mk (Kd.V_below (by (with_reducible repeat (first | apply Kd.V_alloc | apply Kd.V_drewN | apply Kd.V_drew)); exact HO_0.out) hb); replace HO_211000 := Aside0.mk (Kd.R_below (rr_ HO_211000.out) hb); replace HO_211001 := Aside0.mk (Kd.R_below (rr_ HO_211001.out) hb); replace BK209 := Aside0.mk (blk_below (bk_ BK209.out) hb); replace BK210 := Aside0.mk (blk_below (bk_ BK210.out) hb); replace HB := Aside0.mk (below_step bS hb); (try clear hb); have hnb37 := NB210_209.out; have hnc37 := NB209_210.out; have hcz38_0 : w36.cell? ⟨gb210, 0, none⟩ = some (.slice Ao23 y220.length co23) := (blk_cell BK210.out 0).trans rfl; have hcz38_1 : w36.cell? ⟨gb210, 1, none⟩ = some (u211001) := (blk_cell BK210.out 1).trans rfl; have hfz38_0 := blk_frozen BK210.out 0; have hfz38_1 := blk_frozen BK210.out 1) | ((with_reducible refine gate_builtin (b := .append) (xs := #[.tmp 71, .tmp 75]) rfl ?_); (try (refine gate_guard (by rfl) ?_; dsimp only)); at_builtin; refine Kd.R_append k55 (w0 := w) w.heap.size rfl (.tmp 71) (.tmp 75) 35 55 (.agg #[(.int .i64 0), (.int .i64 0)]) 16 rfl Tryd.underlying35 info55 rfl (by decide) (by omega) u211001 x211001_3 (⟨t225, t228⟩ : S55) [.int .i64 t225, .int .i64 t228] (fun k_ => (w.heap.size ≤ k_)) (fun _ => False) rfl rfl ?aP (fun _ hk => hk.elim) ?aF ?aO ?aB ?aS ?aL ?_; (case aP => exact k55_mkM _ _ _ (⟨t225, t228⟩ : S55)); (case aB => exact bS); (case aF => exact (fun k_ hk => (Nat.le_trans (below_size bS) hk))); (case aO => exact (rr_ HO_211001.out)); (case aS => exact (below_size bS)); (case aL => have := LMc32.out; omega); intro v231 w39 ho hb hg hat; rw [← Ny230.out] at ho; have n0_ := Aside0.mk (Kd.V_afterv (ok := (fun k_ => (P0_ k_ ∨ w.heap.size ≤ k_) ∧ some k_ ≠ (.slice Ao23 y220.length co23 : Value).ownBlock ∧ k_ ≠ gb209 ∧ k_ ≠ gb210)) (by (with_reducible repeat (first | apply Kd.V_alloc | apply Kd.V_drewN | apply Kd.V_drew)); exact Kd.V_mono HO_0.out (fun _ hk => ⟨⟨hk.1, ⟨hk.2.1, ⟨hk.2.2.2.1, hk.2.2.2.2⟩⟩⟩, hk.2.2.1⟩)) hg hat); have n1_ := Aside0.mk (Kd.R_over' (rr_ HO_211000.out) (Kd.R_typed (rr_ HO_211001.out)) (by decide) hg); have n2_ := Aside0.mk (blk_grown (bk_ BK209.out) hg (Kd.R_ne HO_211001.out BK209.out (by decide))); have n3_ := Aside0.mk (blk_grown (bk_ BK210.out) hg (Kd.R_ne HO_211001.out BK210.out (by decide))); have n4_ := Aside0.mk (hb); have n5_ := Aside0.mk (ho); clear HO_0; clear HO_211000; clear BK209; clear BK210; clear HB; clear HO_211001; have HO_0 := n0_; have HO_211000 := n1_; have BK209 := n2_; have BK210 := n3_; have HB := n4_; have HO232 := n5_; clear n0_ n1_ n2_ n3_ n4_ n5_; clear ho hb hg hat; obtain ⟨Ao40, co40, eo40⟩ := Kd.R_slice HO232.out; subst eo40; have hcz41_0 : w39.cell? ⟨gb210, 0, none⟩ = some (.slice Ao23 y220.length co23) := (blk_cell BK210.out 0).trans rfl; have hcz41_1 : w39.cell? ⟨gb210, 1, none⟩ = some (u211001) := (blk_cell BK210.out 1).trans rfl; have hfz41_0 := blk_frozen BK210.out 0; have hfz41_1 := blk_frozen BK210.out 1) | ((with_reducible refine gate_store (t := 35) (p := 77) rfl ?_); refine store_event (t := 35) (p := 77) (v := ?vo_w42) (w1 := (w39.setCell ⟨gb210, 1, none⟩ (.slice Ao40 y230.length co40))) ?hg ?ho ?hn ?hr ?_; (case ho => rfl); (case hg => rfl); (case hn => rfl); (case hr => first | (go_simp; done) | (go_simp; rfl)); intro w42 hw; have n0_ : Aside0 (Kd.V Kd.string 9 w42 w.heap.size (fun k_ => (P0_ k_ ∨ w.heap.size ≤ k_) ∧ some k_ ≠ (.slice Ao23 y220.length co23 : Value).ownBlock ∧ some k_ ≠ (.slice Ao40 y230.length co40 : Value).ownBlock ∧ k_ ≠ gb209 ∧ k_ ≠ gb210) (.slice (some ad224) x0_3.length co34) x0_3) := ⟨(by rw [hw]; exact (by (with_reducible repeat (first | apply Kd.V_alloc | apply Kd.V_drewN | apply Kd.V_drew)); exact Kd.V_mono (Kd.V_far (p := ⟨gb210, 1, none⟩) (Kd.V_mono HO_0.out (fun k_ hk => (⟨hk, hk.1.2.2.2⟩ : _ ∧ k_ ≠ gb210))) (fun _ hk => hk.2) (.slice Ao40 y230.length co40)) (fun _ hk => ⟨hk.1.1.1, ⟨hk.1.1.2.1, ⟨hk.1.2, ⟨hk.1.1.2.2.1, hk.1.1.2.2.2⟩⟩⟩⟩)))⟩; have n1_ : Aside0 (Kd.R (Kd.int .i64) 3 w42 w.heap.size (fun k_ => (w.heap.size ≤ k_)) (.slice Ao23 y220.length co23) y220) := ⟨(by rw [hw]; exact (by refine rr_ ?_; exact Kd.R_mono (Kd.R_far (p := ⟨gb210, 1, none⟩) (Kd.R_types HO_211000.out BK210.out (by decide)) (fun _ hk => hk.2) (.slice Ao40 y230.length co40)) (fun _ hk => hk.1)))⟩; have n2_ : Aside0 (Kd.R k55 55 w42 w.heap.size (fun k_ => (w.heap.size ≤ k_)) (.slice Ao40 y230.length co40) y230) := ⟨(by rw [hw]; exact (by refine rr_ ?_; exact Kd.R_mono (Kd.R_far (p := ⟨gb210, 1, none⟩) (Kd.R_types HO232.out BK210.out (by decide)) (fun _ hk => hk.2) (.slice Ao40 y230.length co40)) (fun _ hk => hk.1)))⟩; have n3_ : Aside0 (w42.heap[gb209]? = some (.cells #[.slice none 0 0, .slice none 0 0] 37 (0, 0))) := ⟨(by rw [hw]; exact (bf_ BK209.out))⟩; have n4_ : Aside0 (w42.heap[gb210]? = some (.cells #[.slice Ao23 y220.length co23, .slice Ao40 y230.length co40] 37 (0, 0))) := ⟨(by rw [hw]; exact (by refine bk_ ?_; refine blk_put (cs := #[.slice Ao23 y220.length co23, u211001]) ?_ 1 _ rfl; exact bk_ BK210.out))⟩; have n5_ : Aside0 (Below w.heap.size w w42) := ⟨(by rw [hw]; exact bS)⟩; clear hw; clear HO_0; clear HO_211000; clear HO232; clear BK209; clear BK210; clear HB; have HO_0 := n0_; have HO_211000 := n1_; have HO232 := n2_; have BK209 := n3_; have BK210 := n4_; have HB := n5_; clear n0_ n1_ n2_ n3_ n4_ n5_; have q43 : (2 : Int) ≤ ((x0_3.length : Int) : Int) := of_decide_eq_true as_; obtain ⟨i043, hi043, _, hsz43, _⟩ := info_parts info9; have hroom43 : x0_3.length ≤ co34 := (Kd.V_reads' HO_0.out).2.1; have hC43 : Kd.F Kd.string _ _ (some ad224) x0_3.length x0_3 := (Kd.V_at (base := w.heap.size) HO_0.out).2.2; have hcut43 := cut_from (P := Tryd.prog) 22 9 .i64 Tryd.underlying22 hi043 1 hsz43 (some ad224) x0_3.length co34 2 (by omega) q43; have hr43 := Kd.F_cut (m := (2 : Int).toNat) (c := co34) hC43 (by omega) hroom43; obtain ⟨A43, hA43⟩ : ∃ A1, A1 = (if co34 = (2 : Int).toNat then (some ad224) else ((some ad224) : Option Addr).map (·.add ((2 : Int).toNat * 1))) := ⟨_, rfl⟩; obtain ⟨c43, hc43⟩ : ∃ c1, c1 = co34 - (2 : Int).toNat := ⟨_, rfl⟩; have hy43 : y233.length = x0_3.length - (2 : Int).toNat := (by rw [Ny233.out, List.length_drop] <;> omega); rw [show (x0_3).drop (2 : Int).toNat = y233 from Ny233.out.symm] at hr43; replace hr43 : Kd.F Kd.string _ _ A43 y233.length y233 := (by rw [hA43]; exact hr43); rw [← hy43, ← hA43, ← hc43] at hcut43; have HO237 := Aside0.mk (show Kd.V Kd.string 9 _ w.heap.size _ (.slice A43 y233.length c43) y233 from Kd.V_mk (by rw [hy43, hc43]; exact Nat.sub_le_sub_right hroom43 _) hr43); have HC237 := Aside0.mk (show y233.length ≤ c43 from by rw [hy43, hc43]; exact Nat.sub_le_sub_right hroom43 _); clear hr43 hC43 hroom43 hi043 hsz43 hc43; have KY43 := Aside0.mk hy43; have KA43 := Aside0.mk hA43; clear hy43 hA43; replace q43 := eq_true q43))
                   go_roundg k3
                   case measure => have := HK1.out; have := HJ6.out; have := HK3.out; omega
                   case rel => exact ⟨(y233), (wrap64 (x47_3 + 1)), (y230), (.slice Ao40 y230.length co40), (by first | rfl | (simp; done) | (simp [*]; done)), H', ⟨by have := HK1.out; have := HJ6.out; have := HK3.out; omega⟩, ⟨by (with_reducible repeat (first | apply Kd.V_alloc | apply Kd.V_drewN | apply Kd.V_drew)); exact HO237.out⟩, ⟨rr_ HO_211000.out⟩, ⟨rr_ HO232.out⟩, ⟨bk_ BK209.out⟩, ⟨bk_ BK210.out⟩, ⟨bS⟩⟩
                  ·rw [if_neg c33] at H
                   exact absurd H (by simp)
                 ·rw [if_neg c32] at H
                  exact absurd H (by simp)
                ·replace c31 := Bool.eq_false_iff.mpr c31
                 subst c31
                 have H1 : (some (([] : List Int), ([] : List (S55)), false)) = some (r1, r2, r3) := by rw [if_neg (show ¬ (false = true) by decide)] at H; exact H
                 clear H
                 have H := H1
                 clear H1
                 simp only [Option.some.injEq, Prod.mk.injEq] at H
                 obtain ⟨rfl, rfl, rfl⟩ := H
                 obtain ⟨Ao44, co44, eo44⟩ := Kd.V_slice HO_0.out
                 subst eo44
                 have p224 : 0 ≤ (0 : Int) := (by omega)
                 have q224 : 0 < (x0_3.length : Int) := of_decide_eq_true as_
                 obtain ⟨ad224, e224, hx224_0⟩ := Kd.at_string (Kd.V_reads' HO_0.out).2.2 0 p224 q224
                 cases e224
                 have qi224 : (0 < x0_3.length) = True := eq_true (by omega)
                 (try rw [show ((0 : Int)).toNat = 0 from rfl] at hx224_0)
                 (try rw [Addr.add_zero'] at hx224_0)
                 replace p224 := eq_true p224
                 replace q224 := eq_true q224
                 go_wp2_with (first | ((with_reducible refine gate_callee (f := 67) rfl ?_); refine goesL_ (some 53) rfl rfl Tryd.func67 (by kernel_rfl) rfl #[.string (rdOf ByteArray.empty x0_3 0)] rfl lm_ ?_; (with_reducible refine (impl_readSigned.calls k3 (rdOf ByteArray.empty x0_3 0) t225 true _ ?hT_ A27.out).mono ?_); (case hT_ => exact Tab.Is.below HTB_.out bS); rintro e w45 ⟨rfl, hb⟩; refine ⟨_, rfl, ?_⟩; replace HO_0 := Aside0.mk (Kd.V_below (by (with_reducible repeat (first | apply Kd.V_alloc | apply Kd.V_drewN | apply Kd.V_drew)); exact HO_0.out) hb); replace HO_211000 := Aside0.mk (Kd.R_below (rr_ HO_211000.out) hb); replace HO_211001 := Aside0.mk (Kd.R_below (rr_ HO_211001.out) hb); replace BK209 := Aside0.mk (blk_below (bk_ BK209.out) hb); replace BK210 := Aside0.mk (blk_below (bk_ BK210.out) hb); replace HB := Aside0.mk (below_step bS hb); (try clear hb); have p227 : 0 ≤ (1 : Int) := (by omega); have q227 : 1 < (x0_3.length : Int) := of_decide_eq_true as_; obtain ⟨ad227, e227, hx227_0⟩ := Kd.at_string (Kd.V_reads' HO_0.out).2.2 1 p227 q227; obtain rfl : ad224 = ad227 := (by injection e227); (try simp only [show (1 : Int).toNat = 1 from rfl, Nat.reduceMul, Nat.reduceEqDiff, Go.Addr.add, ↓reduceIte] at hx227_0); have qi227 : (1 < x0_3.length) = True := eq_true (by omega); (try rw [show ((1 : Int)).toNat = 1 from rfl] at hx227_0); replace p227 := eq_true p227; replace q227 := eq_true q227) | ((with_reducible refine gate_callee (f := 67) rfl ?_); refine goesL_ (some 60) rfl rfl Tryd.func67 (by kernel_rfl) rfl #[.string (rdOf ByteArray.empty x0_3 1)] rfl lm_ ?_; (with_reducible refine (impl_readSigned.calls k3 (rdOf ByteArray.empty x0_3 1) t228 false _ ?hT_ A29.out).mono ?_); (case hT_ => exact Tab.Is.below HTB_.out bS); rintro e w46 ⟨rfl, hb⟩; refine ⟨_, rfl, ?_⟩; replace HO_0 := Aside0.mk (Kd.V_below (by (with_reducible repeat (first | apply Kd.V_alloc | apply Kd.V_drewN | apply Kd.V_drew)); exact HO_0.out) hb); replace HO_211000 := Aside0.mk (Kd.R_below (rr_ HO_211000.out) hb); replace HO_211001 := Aside0.mk (Kd.R_below (rr_ HO_211001.out) hb); replace BK209 := Aside0.mk (blk_below (bk_ BK209.out) hb); replace BK210 := Aside0.mk (blk_below (bk_ BK210.out) hb); replace HB := Aside0.mk (below_step bS hb); (try clear hb); have hnb47 := NB209_210.out; have hnc47 := NB210_209.out; have hcz48_0 : w46.cell? ⟨gb209, 0, none⟩ = some (.slice none 0 0) := (blk_cell BK209.out 0).trans rfl; have hcz48_1 : w46.cell? ⟨gb209, 1, none⟩ = some (.slice none 0 0) := (blk_cell BK209.out 1).trans rfl; have hfz48_0 := blk_frozen BK209.out 0; have hfz48_1 := blk_frozen BK209.out 1))
                 refine bodyPost_ret (results_ct rfl _ _ gb209 37 #[.slice none 0 0, .slice none 0 0] (0, 0) _ rfl (by refine bk_ ?_; refine blk_put (cs := #[.slice none 0 0, .slice none 0 0]) ?_ 1 _ rfl; refine bk_ ?_; refine blk_put (cs := #[.slice none 0 0, .slice none 0 0]) ?_ 0 _ rfl; exact bk_ BK209.out) Tryd.underlying37 rfl (by kernel_rfl)) rfl ?_
                 exact ⟨_, _, by first | rfl | (simp [errW_none, errW_some] <;> rfl) | (simp [*, errW_none, errW_some] <;> rfl), by first | exact Kd.R_nil _ _ _ _ _ | exact Kd.N_nil _ _ _ _ _ | exact Kd.V_nil _ _ _ _ _ | exact Kd.Q_nil _ _ _ _ _ | exact Kd.S_nil _ _ _ _ _, by first | exact Kd.R_nil _ _ _ _ _ | exact Kd.N_nil _ _ _ _ _ | exact Kd.V_nil _ _ _ _ _ | exact Kd.Q_nil _ _ _ _ _ | exact Kd.S_nil _ _ _ _ _, by exact bS⟩
               ·replace c30 := Bool.eq_false_iff.mpr c30
                subst c30
                have H1 : (some (([] : List Int), ([] : List (S55)), false)) = some (r1, r2, r3) := by rw [if_neg (show ¬ (false = true) by decide)] at H; exact H
                clear H
                have H := H1
                clear H1
                simp only [Option.some.injEq, Prod.mk.injEq] at H
                obtain ⟨rfl, rfl, rfl⟩ := H
                obtain ⟨Ao49, co49, eo49⟩ := Kd.V_slice HO_0.out
                subst eo49
                have p224 : 0 ≤ (0 : Int) := (by omega)
                have q224 : 0 < (x0_3.length : Int) := of_decide_eq_true as_
                obtain ⟨ad224, e224, hx224_0⟩ := Kd.at_string (Kd.V_reads' HO_0.out).2.2 0 p224 q224
                cases e224
                have qi224 : (0 < x0_3.length) = True := eq_true (by omega)
                (try rw [show ((0 : Int)).toNat = 0 from rfl] at hx224_0)
                (try rw [Addr.add_zero'] at hx224_0)
                replace p224 := eq_true p224
                replace q224 := eq_true q224
                go_wp2_with (first | ((with_reducible refine gate_callee (f := 67) rfl ?_); refine goesL_ (some 53) rfl rfl Tryd.func67 (by kernel_rfl) rfl #[.string (rdOf ByteArray.empty x0_3 0)] rfl lm_ ?_; (with_reducible refine (impl_readSigned.calls k3 (rdOf ByteArray.empty x0_3 0) t225 false _ ?hT_ A27.out).mono ?_); (case hT_ => exact Tab.Is.below HTB_.out bS); rintro e w50 ⟨rfl, hb⟩; refine ⟨_, rfl, ?_⟩; replace HO_0 := Aside0.mk (Kd.V_below (by (with_reducible repeat (first | apply Kd.V_alloc | apply Kd.V_drewN | apply Kd.V_drew)); exact HO_0.out) hb); replace HO_211000 := Aside0.mk (Kd.R_below (rr_ HO_211000.out) hb); replace HO_211001 := Aside0.mk (Kd.R_below (rr_ HO_211001.out) hb); replace BK209 := Aside0.mk (blk_below (bk_ BK209.out) hb); replace BK210 := Aside0.mk (blk_below (bk_ BK210.out) hb); replace HB := Aside0.mk (below_step bS hb); (try clear hb); have p227 : 0 ≤ (1 : Int) := (by omega); have q227 : 1 < (x0_3.length : Int) := of_decide_eq_true as_; obtain ⟨ad227, e227, hx227_0⟩ := Kd.at_string (Kd.V_reads' HO_0.out).2.2 1 p227 q227; obtain rfl : ad224 = ad227 := (by injection e227); (try simp only [show (1 : Int).toNat = 1 from rfl, Nat.reduceMul, Nat.reduceEqDiff, Go.Addr.add, ↓reduceIte] at hx227_0); have qi227 : (1 < x0_3.length) = True := eq_true (by omega); (try rw [show ((1 : Int)).toNat = 1 from rfl] at hx227_0); replace p227 := eq_true p227; replace q227 := eq_true q227) | ((with_reducible refine gate_callee (f := 67) rfl ?_); refine goesL_ (some 60) rfl rfl Tryd.func67 (by kernel_rfl) rfl #[.string (rdOf ByteArray.empty x0_3 1)] rfl lm_ ?_; (with_reducible refine (impl_readSigned.calls k3 (rdOf ByteArray.empty x0_3 1) t228 t229 _ ?hT_ A29.out).mono ?_); (case hT_ => exact Tab.Is.below HTB_.out bS); rintro e w51 ⟨rfl, hb⟩; refine ⟨_, rfl, ?_⟩; replace HO_0 := Aside0.mk (Kd.V_below (by (with_reducible repeat (first | apply Kd.V_alloc | apply Kd.V_drewN | apply Kd.V_drew)); exact HO_0.out) hb); replace HO_211000 := Aside0.mk (Kd.R_below (rr_ HO_211000.out) hb); replace HO_211001 := Aside0.mk (Kd.R_below (rr_ HO_211001.out) hb); replace BK209 := Aside0.mk (blk_below (bk_ BK209.out) hb); replace BK210 := Aside0.mk (blk_below (bk_ BK210.out) hb); replace HB := Aside0.mk (below_step bS hb); (try clear hb); have hnb52 := NB209_210.out; have hnc52 := NB210_209.out; have hcz53_0 : w51.cell? ⟨gb209, 0, none⟩ = some (.slice none 0 0) := (blk_cell BK209.out 0).trans rfl; have hcz53_1 : w51.cell? ⟨gb209, 1, none⟩ = some (.slice none 0 0) := (blk_cell BK209.out 1).trans rfl; have hfz53_0 := blk_frozen BK209.out 0; have hfz53_1 := blk_frozen BK209.out 1))
                refine bodyPost_ret (results_ct rfl _ _ gb209 37 #[.slice none 0 0, .slice none 0 0] (0, 0) _ rfl (by refine bk_ ?_; refine blk_put (cs := #[.slice none 0 0, .slice none 0 0]) ?_ 1 _ rfl; refine bk_ ?_; refine blk_put (cs := #[.slice none 0 0, .slice none 0 0]) ?_ 0 _ rfl; exact bk_ BK209.out) Tryd.underlying37 rfl (by kernel_rfl)) rfl ?_
                exact ⟨_, _, by first | rfl | (simp [errW_none, errW_some] <;> rfl) | (simp [*, errW_none, errW_some] <;> rfl), by first | exact Kd.R_nil _ _ _ _ _ | exact Kd.N_nil _ _ _ _ _ | exact Kd.V_nil _ _ _ _ _ | exact Kd.Q_nil _ _ _ _ _ | exact Kd.S_nil _ _ _ _ _, by first | exact Kd.R_nil _ _ _ _ _ | exact Kd.N_nil _ _ _ _ _ | exact Kd.V_nil _ _ _ _ _ | exact Kd.Q_nil _ _ _ _ _ | exact Kd.S_nil _ _ _ _ _, by exact bS⟩
              ·rw [if_neg c28] at H
               exact absurd H (by simp)
             ·rw [if_neg c26] at H
              exact absurd H (by simp)
            ·rw [if_neg c25] at H
             have c25b0 : decide (x47_3 < t223) = false := decide_eq_false c25
             clear c25
             have H' := Aside0.mk H
             clear H
             go_wp2
             go_roundg k3
             case measure => have := HK1.out; have := HJ6.out; have := HK3.out; omega
             case rel => exact ⟨(x0_3), (y220), (x211001_3), (.slice Ao23 y220.length co23), (u211001), H', ⟨by have := HK1.out; have := HJ6.out; have := HK3.out; omega⟩, ⟨by (with_reducible repeat (first | apply Kd.V_alloc | apply Kd.V_drewN | apply Kd.V_drew)); exact HO_0.out⟩, ⟨rr_ HO_211000.out⟩, ⟨rr_ HO_211001.out⟩, ⟨bk_ BK209.out⟩, ⟨bk_ BK210.out⟩, ⟨bS⟩⟩
         ·rw [if_neg c17] at H
          exact absurd H (by simp)
        ·rw [if_neg c16] at H
         exact absurd H (by simp)
    ·rw [if_neg c5] at H
     exact absurd H (by simp)
   ·rw [if_neg c4] at H
    have c4b0 : decide (0 < (x0_1.length : Int)) = false := decide_eq_false c4
    have c4b1 : decide (0 < x0_1.length) = false := decide_eq_false (by omega)
    clear c4
    simp only [Option.some.injEq, Prod.mk.injEq] at H
    obtain ⟨rfl, rfl, rfl⟩ := H
    obtain ⟨Ao54, co54, eo54⟩ := Kd.V_slice HO_0.out
    subst eo54
    have hnb55 := NB210_209.out
    have hnc55 := NB209_210.out
    have hcz56_0 : wr.cell? ⟨gb210, 0, none⟩ = some (u211000) := (blk_cell BK210.out 0).trans rfl
    have hcz56_1 : wr.cell? ⟨gb210, 1, none⟩ = some (u211001) := (blk_cell BK210.out 1).trans rfl
    have hfz56_0 := blk_frozen BK210.out 0
    have hfz56_1 := blk_frozen BK210.out 1
    obtain ⟨Ao57, co57, eo57⟩ := Kd.R_slice HO_211000.out
    subst eo57
    have hcz58_0 : wr.cell? ⟨gb209, 0, none⟩ = some (.slice none 0 0) := (blk_cell BK209.out 0).trans rfl
    have hcz58_1 : wr.cell? ⟨gb209, 1, none⟩ = some (.slice none 0 0) := (blk_cell BK209.out 1).trans rfl
    have hfz58_0 := blk_frozen BK209.out 0
    have hfz58_1 := blk_frozen BK209.out 1
    obtain ⟨Ao59, co59, eo59⟩ := Kd.R_slice HO_211001.out
    subst eo59
    go_wp2
    refine bodyPost_ret (results_ct rfl _ _ gb209 37 #[.slice Ao57 x211000_1.length co57, .slice Ao59 x211001_1.length co59] (0, 0) _ rfl (by refine bk_ ?_; refine blk_put (cs := #[.slice Ao57 x211000_1.length co57, .slice none 0 0]) ?_ 1 _ rfl; refine bk_ ?_; refine blk_put (cs := #[.slice none 0 0, .slice none 0 0]) ?_ 0 _ rfl; exact bk_ BK209.out) Tryd.underlying37 rfl (by kernel_rfl)) rfl ?_
    exact ⟨_, _, by first | rfl | (simp [errW_none, errW_some] <;> rfl) | (simp [*, errW_none, errW_some] <;> rfl), by refine rr_ ?_; exact Kd.R_mono (Kd.R_far (p := ⟨gb209, 1, none⟩) (Kd.R_far (p := ⟨gb209, 0, none⟩) (Kd.R_types HO_211000.out BK209.out (by decide)) (fun _ hk => hk.2) (.slice Ao57 x211000_1.length co57)) (fun _ hk => hk.2) (.slice Ao59 x211001_1.length co59)) (fun _ hk => hk.1), by refine rr_ ?_; exact Kd.R_mono (Kd.R_far (p := ⟨gb209, 1, none⟩) (Kd.R_far (p := ⟨gb209, 0, none⟩) (Kd.R_types HO_211001.out BK209.out (by decide)) (fun _ hk => hk.2) (.slice Ao57 x211000_1.length co57)) (fun _ hk => hk.2) (.slice Ao59 x211001_1.length co59)) (fun _ hk => hk.1), by exact bS⟩

/-! ### impl_ParsePath: function 18 -/
def impl_ParsePath.j0 : Nat → ByteArray → List ByteArray → Option (List Int × (List (S55)) × Bool)
  | 0, _, _ => none
  | k + 1, x0, x4 => (impl_readPath.f k x4).bind fun bt242 => ((impl_PathText.f k bt242.1 bt242.2.1).bind fun bt250 => (if bt242.2.2 = true then (if bt250.2 = true then (if bt250.1.toList = x0.toList then (some (bt242.1, bt242.2.1, true)) else (some (([] : List Int), ([] : List (S55)), false))) else (some (([] : List Int), ([] : List (S55)), false))) else (some (([] : List Int), ([] : List (S55)), false))))
def impl_ParsePath.f (k : Nat) (a0 : ByteArray) : Option (List Int × (List (S55)) × Bool) := if a0.toList = ([] : List UInt8) then (impl_ParsePath.j0 k a0 ([] : List ByteArray)) else ((strings_Split.f a0 (⟨#[32]⟩ : ByteArray)).bind fun t239 => (impl_ParsePath.j0 k a0 t239))
theorem impl_ParsePath.mono_l : ∀ k, (∀ y0 y1, LeO (impl_ParsePath.j0 k y0 y1) (impl_ParsePath.j0 (k + 1) y0 y1))
  | 0 => fun _ _ r h => by simp [impl_ParsePath.j0] at h
  | k + 1 => by
    have ih0 := impl_ParsePath.mono_l k
    · intro y0 y1
      unfold impl_ParsePath.j0
      repeat' first
      | (with_reducible exact ih0 _ _)
      | (with_reducible exact impl_PathText.mono _ _ _)
      | (with_reducible exact impl_readPath.mono _ _)
      | (with_reducible exact LeO.refl _)
      | (with_reducible exact LeO.none _)
      | (with_reducible refine LeO.ite ?_ ?_)
      | (with_reducible refine LeO.bind ?_ (fun _ => ?_))
      | exact ih0 _ _
      | exact impl_PathText.mono _ _ _
      | exact impl_readPath.mono _ _
      | exact LeO.none _
      | refine LeO.ite ?_ ?_
      | refine LeO.bind ?_ (fun _ => ?_)
theorem impl_ParsePath.mono : ∀ a0 k, LeO (impl_ParsePath.f k a0) (impl_ParsePath.f (k + 1) a0) := by
  intro a0 k
  have ih0 := impl_ParsePath.mono_l k
  unfold impl_ParsePath.f
  repeat' first
      | (with_reducible exact ih0 _ _)
      | (with_reducible exact impl_PathText.mono _ _ _)
      | (with_reducible exact impl_readPath.mono _ _)
      | (with_reducible exact LeO.refl _)
      | (with_reducible exact LeO.none _)
      | (with_reducible refine LeO.ite ?_ ?_)
      | (with_reducible refine LeO.bind ?_ (fun _ => ?_))
      | exact ih0 _ _
      | exact impl_PathText.mono _ _ _
      | exact impl_readPath.mono _ _
      | exact LeO.none _
      | refine LeO.ite ?_ ?_
      | refine LeO.bind ?_ (fun _ => ?_)
set_option maxHeartbeats 8000000 in
set_option maxRecDepth 100000 in
theorem impl_ParsePath.calls (k : Nat) (a0 : ByteArray) (r1 : List Int) (r2 : List (S55)) (r3 : Bool) (w : World) (hT_ : Tab.Is w) (h : impl_ParsePath.f k a0 = some (r1, r2, r3)) :
    Calls Tryd.prog 18 #[.string a0] w fun e w' => ∃ v0_ v1_ : Value, e = .returned (.tuple #[.agg #[v0_, v1_], .bool r3]) ∧ Kd.R (Kd.int .i64) 3 w' w.heap.size (fun _ => True) v0_ r1 ∧ Kd.R k55 55 w' w.heap.size (fun _ => True) v1_ r2 ∧ Below w.heap.size w w' := by
 have HTB_ := Aside0.mk hT_
 clear hT_
 have hu37 := Tryd.underlying37
 have HB := Aside0.mk (Below.refl w.heap.size w)
 have H : (if a0.toList = ([] : List UInt8) then (impl_ParsePath.j0 k a0 ([] : List ByteArray)) else ((strings_Split.f a0 (⟨#[32]⟩ : ByteArray)).bind fun t239 => (impl_ParsePath.j0 k a0 t239))) = some (r1, r2, r3) := h
 clear h
 have HC2 := Aside0.mk H
 clear H
 go_enter Tryd.func18, Tryd.ntmps18
 go_upto_if 10 with (first | ((with_reducible refine gate_dst (N := 2) rfl ?_); refine box_event ?hg (N := 2) ?hd (cs := #[.slice none 0 0, .slice none 0 0]) (t := 37) ?hr ?_; (case hd => rfl); (case hg => rfl); (case hr => first | (go_simp; done) | (go_simp; rfl)); intro gb238 hg w3 hbox hb; have BK238 := Aside0.mk (hbox); have GW238 := Aside0.mk ((by rw [hg]; exact (below_size bS) : w.heap.size ≤ gb238)); have GE238 := Aside0.mk ((by rw [hg]; exact (below_size bS) : w.heap.size ≤ gb238)); replace HB := Aside0.mk (below_step bS hb); clear hb hbox hg))
 (try simp only [PQ])
 go_cut [4] (fun v4 wc => ∃ (kq : Nat) (x4_1 : List ByteArray), Aside0 (impl_ParsePath.j0 kq a0 x4_1 = some (r1, r2, r3)) ∧ Aside0 (kq ≤ k) ∧ Aside0 (Kd.R Kd.string 9 wc w.heap.size (fun _ => True) v4 x4_1) ∧ Aside0 (wc.heap[gb238]? = some (.cells #[(.slice none 0 0), (.slice none 0 0)] 37 (0, 0))) ∧ Aside0 (Below w.heap.size w wc))
 case first =>
  have H := HC2.out
  clear HC2
  by_cases c4 : a0.toList = ([] : List UInt8)
  ·rw [if_pos c4] at H
   have c4b0 : (a0.toList == ([] : List UInt8)) = true := beq_iff_eq.mpr c4
   have c4b4 : a0.toList.isEmpty = true := List.isEmpty_iff.2 c4
   have c4b1 : (a0.toList != ([] : List UInt8)) = false := bne_eq_false_iff_eq.mpr c4
   clear c4
   (first | rw [c4b0] | (simp only [i64_w, i32_w]; rw [c4b0]) | skip)
   (try rw [c4b4])
   have H' := Aside0.mk H
   clear H
   go_wp2
   go_meet
   case rel => exact ⟨_, (([] : List ByteArray)), H', ⟨by first | omega | exact Nat.le_refl _⟩, ⟨by first | exact Kd.R_nil _ _ _ _ _ | exact Kd.N_nil _ _ _ _ _ | exact Kd.V_nil _ _ _ _ _ | exact Kd.Q_nil _ _ _ _ _ | exact Kd.S_nil _ _ _ _ _⟩, ⟨bk_ BK238.out⟩, ⟨bS⟩⟩
  ·rw [if_neg c4] at H
   have c4b0 : (a0.toList == ([] : List UInt8)) = false := beq_eq_false_iff_ne.mpr c4
   have c4b4 : a0.toList.isEmpty = false := Bool.eq_false_iff.2 (fun h_ => c4 (List.isEmpty_iff.1 h_))
   have c4b1 : (a0.toList != ([] : List UInt8)) = true := bne_iff_ne.mpr c4
   (first | rw [c4b0] | (simp only [i64_w, i32_w]; rw [c4b0]) | skip)
   (try rw [c4b4])
   replace H := Option.bind_eq_some_iff.mp H
   obtain ⟨t239, A50, H⟩ := H
   try dsimp only at H
   have A5 := Aside0.mk A50
   clear A50
   have H' := Aside0.mk H
   clear H
   go_wp2_with (first | ((with_reducible refine gate_callee (f := 28) rfl ?_); refine goesL_ (some 12) rfl rfl Tryd.func28 (by kernel_rfl) rfl #[.string a0, .string (⟨#[32]⟩ : ByteArray)] rfl lm_ ?_; (with_reducible refine (strings_Split.calls a0 (⟨#[32]⟩ : ByteArray) t239 _ ?hT_ A5.out).mono ?_); (case hT_ => exact Tab.Is.below HTB_.out bS); rintro e w6 ⟨v240, rfl, ho0, hb⟩; refine ⟨_, rfl, ?_⟩; have HO241 := Aside0.mk (Kd.R_lower ho0 (below_size bS)); replace BK238 := Aside0.mk (blk_below (bk_ BK238.out) hb); replace HB := Aside0.mk (below_step bS hb); (try clear hb ho0)))
   go_meet
   case rel => exact ⟨_, (t239), H', ⟨by first | omega | exact Nat.le_refl _⟩, ⟨rr_ HO241.out⟩, ⟨bk_ BK238.out⟩, ⟨bS⟩⟩
 case rest =>
  clear HC2
  try clear c1
  try clear c2
  try clear p2
  try clear c4
  try clear c4b0
  try clear c4b1
  obtain ⟨kq, x4_1, HA, HJ1, HO_4, BK238, HB⟩ := hcut
  cases kq with
  | zero => exact absurd HA.out (by simp [impl_ParsePath.j0])
  | succ kj1 =>
   have H := HA.out
   clear HA
   simp only [impl_ParsePath.j0] at H
   replace H := Option.bind_eq_some_iff.mp H
   obtain ⟨⟨t242, t245, t248⟩, A70, H⟩ := H
   try dsimp only at H
   have A7 := Aside0.mk A70
   clear A70
   replace H := Option.bind_eq_some_iff.mp H
   obtain ⟨⟨t250, t251⟩, A80, H⟩ := H
   try dsimp only at H
   have A8 := Aside0.mk A80
   clear A80
   by_cases c9 : t248 = true
   ·subst c9
    have H1 : (if t251 = true then (if t250.toList = a0.toList then (some (t242, t245, true)) else (some (([] : List Int), ([] : List (S55)), false))) else (some (([] : List Int), ([] : List (S55)), false))) = some (r1, r2, r3) := by rw [if_pos rfl] at H; exact H
    clear H
    have H := H1
    clear H1
    by_cases c10 : t251 = true
    ·subst c10
     have H1 : (if t250.toList = a0.toList then (some (t242, t245, true)) else (some (([] : List Int), ([] : List (S55)), false))) = some (r1, r2, r3) := by rw [if_pos rfl] at H; exact H
     clear H
     have H := H1
     clear H1
     by_cases c11 : t250.toList = a0.toList
     ·rw [if_pos c11] at H
      have c11b0 : (t250.toList == a0.toList) = true := beq_iff_eq.mpr c11
      have c11b1 : (t250.toList != a0.toList) = false := bne_eq_false_iff_eq.mpr c11
      clear c11
      simp only [Option.some.injEq, Prod.mk.injEq] at H
      obtain ⟨rfl, rfl, rfl⟩ := H
      obtain ⟨Ao12, co12, eo12⟩ := Kd.R_slice HO_4.out
      subst eo12
      go_wp2_with (first | ((with_reducible refine gate_callee (f := 42) rfl ?_); refine goesL_ (some 15) rfl rfl Tryd.func42 (by kernel_rfl) rfl #[.slice Ao12 x4_1.length co12] rfl lm_ ?_; (with_reducible refine (impl_readPath.calls kj1 (fun k_ => some k_ = (.slice Ao12 x4_1.length co12 : Value).ownBlock) _ _ x4_1 t242 t245 true _ ?side1 ?hT_ A7.out).mono ?_); (case hT_ => exact Tab.Is.below HTB_.out bS); (case side1 => exact Kd.R_V (Kd.R_tight rfl (Kd.R_types (HO_4.out) BK238.out (by decide)))); rintro e w13 ⟨v243, v246, rfl, ho0, ho1, hb⟩; refine ⟨_, rfl, ?_⟩; replace HO_4 := Aside0.mk (Kd.R_below (rr_ HO_4.out) hb); have HO244 := Aside0.mk (Kd.R_lower (Kd.R_mono (ok' := fun k_ => True) ho0 (fun _ hk_ => trivial)) (below_size bS)); have HO247 := Aside0.mk (Kd.R_lower (Kd.R_mono (ok' := fun k_ => True) ho1 (fun _ hk_ => trivial)) (below_size bS)); replace BK238 := Aside0.mk (blk_below (bk_ BK238.out) hb); replace HB := Aside0.mk (below_step bS hb); (try clear hb ho0 ho1)) | ((with_reducible refine gate_dst (N := 5) rfl ?_); refine box_event ?hg (N := 5) ?hd (cs := #[.slice none 0 0, .slice none 0 0]) (t := 37) ?hr ?_; (case hd => rfl); (case hg => rfl); (case hr => first | (go_simp; done) | (go_simp; rfl)); intro gb249 hg w14 hbox hb; replace HO_4 := Aside0.mk (Kd.R_below (rr_ HO_4.out) hb); replace HO244 := Aside0.mk (Kd.R_below (rr_ HO244.out) hb); replace HO247 := Aside0.mk (Kd.R_below (rr_ HO247.out) hb); have BK249 := Aside0.mk (hbox); have GW249 := Aside0.mk ((by rw [hg]; exact (below_size bS) : w.heap.size ≤ gb249)); have GE249 := Aside0.mk ((by rw [hg]; exact (below_size bS) : w.heap.size ≤ gb249)); replace HB := Aside0.mk (below_step bS hb); have NB238_249 := Aside0.mk ((by rw [hg]; exact Nat.ne_of_lt (blk_lt (bk_ BK238.out)) : gb238 ≠ gb249)); have NB249_238 := Aside0.mk ((by rw [hg]; exact Nat.ne_of_gt (blk_lt (bk_ BK238.out)) : gb249 ≠ gb238)); replace BK238 := Aside0.mk (blk_below (bk_ BK238.out) hb); clear hb hbox hg; obtain ⟨Ao15, co15, eo15⟩ := Kd.R_slice HO244.out; subst eo15; have hnb16 := NB249_238.out; have hnc16 := NB238_249.out; have hcz17_0 : w14.cell? ⟨gb249, 0, none⟩ = some (.slice none 0 0) := (blk_cell BK249.out 0).trans rfl; have hcz17_1 : w14.cell? ⟨gb249, 1, none⟩ = some (.slice none 0 0) := (blk_cell BK249.out 1).trans rfl; have hfz17_0 := blk_frozen BK249.out 0; have hfz17_1 := blk_frozen BK249.out 1; obtain ⟨Ao18, co18, eo18⟩ := Kd.R_slice HO247.out; subst eo18) | ((with_reducible refine gate_callee (f := 15) rfl ?_); refine goesL_ (some 20) rfl rfl Tryd.func15 (by kernel_rfl) rfl #[.agg #[.slice Ao15 t242.length co15, .slice Ao18 t245.length co18]] rfl lm_ ?_; (with_reducible refine (impl_PathText.calls kj1 _ _ t242 _ _ t245 t250 true _ ?side1 ?side2 ?side3 ?side4 ?hT_ A8.out).mono ?_); (case hT_ => exact Tab.Is.below HTB_.out bS); (case side1 => refine (Kd.R_reads' (e := 3) (base := w.heap.size) (ok := fun k_ => True) (n := t242.length) (c := co15) ?_).2.2; exact (by refine rr_ ?_; exact (Kd.R_mono (Kd.R_far (p := ⟨gb249, 1, none⟩) (Kd.R_far (p := ⟨gb249, 0, none⟩) (Kd.R_types HO244.out BK249.out (by decide)) (fun _ hk => hk.2) (.slice Ao15 t242.length co15)) (fun _ hk => hk.2) (.slice Ao18 t245.length co18)) (fun _ h_ => h_.1)))); (case side2 => exact (Kd.R_reads' HO244.out).2.1); (case side3 => refine (Kd.R_reads' (e := 55) (base := w.heap.size) (ok := fun k_ => True) (n := t245.length) (c := co18) ?_).2.2; exact (by refine rr_ ?_; exact (Kd.R_mono (Kd.R_far (p := ⟨gb249, 1, none⟩) (Kd.R_far (p := ⟨gb249, 0, none⟩) (Kd.R_types HO247.out BK249.out (by decide)) (fun _ hk => hk.2) (.slice Ao15 t242.length co15)) (fun _ hk => hk.2) (.slice Ao18 t245.length co18)) (fun _ h_ => h_.1)))); (case side4 => exact (Kd.R_reads' HO247.out).2.1); rintro e w19 ⟨rfl, hb⟩; refine ⟨_, rfl, ?_⟩; replace HO_4 := Aside0.mk (Kd.R_below (by refine rr_ ?_; exact (Kd.R_mono (Kd.R_far (p := ⟨gb249, 1, none⟩) (Kd.R_far (p := ⟨gb249, 0, none⟩) (Kd.R_types HO_4.out BK249.out (by decide)) (fun _ hk => hk.2) (.slice Ao15 t242.length co15)) (fun _ hk => hk.2) (.slice Ao18 t245.length co18)) (fun _ h_ => h_.1))) hb); replace HO244 := Aside0.mk (Kd.R_below (by refine rr_ ?_; exact (Kd.R_mono (Kd.R_far (p := ⟨gb249, 1, none⟩) (Kd.R_far (p := ⟨gb249, 0, none⟩) (Kd.R_types HO244.out BK249.out (by decide)) (fun _ hk => hk.2) (.slice Ao15 t242.length co15)) (fun _ hk => hk.2) (.slice Ao18 t245.length co18)) (fun _ h_ => h_.1))) hb); replace HO247 := Aside0.mk (Kd.R_below (by refine rr_ ?_; exact (Kd.R_mono (Kd.R_far (p := ⟨gb249, 1, none⟩) (Kd.R_far (p := ⟨gb249, 0, none⟩) (Kd.R_types HO247.out BK249.out (by decide)) (fun _ hk => hk.2) (.slice Ao15 t242.length co15)) (fun _ hk => hk.2) (.slice Ao18 t245.length co18)) (fun _ h_ => h_.1))) hb); replace BK238 := Aside0.mk (blk_below (bf_ BK238.out) hb); replace BK249 := Aside0.mk (blk_below (g := gb249) (o := .cells #[.slice Ao15 t242.length co15, .slice Ao18 t245.length co18] 37 (0, 0)) (by refine bk_ ?_; refine blk_put (cs := #[.slice Ao15 t242.length co15, .slice none 0 0]) ?_ 1 _ rfl; refine bk_ ?_; refine blk_put (cs := #[.slice none 0 0, .slice none 0 0]) ?_ 0 _ rfl; exact bk_ BK249.out) hb); replace HB := Aside0.mk (below_step bS hb); (try clear hb); have hcz20_0 : w19.cell? ⟨gb249, 0, none⟩ = some (.slice Ao15 t242.length co15) := (blk_cell BK249.out 0).trans rfl; have hcz20_1 : w19.cell? ⟨gb249, 1, none⟩ = some (.slice Ao18 t245.length co18) := (blk_cell BK249.out 1).trans rfl; have hfz20_0 := blk_frozen BK249.out 0; have hfz20_1 := blk_frozen BK249.out 1; have hcz21_0 : w19.cell? ⟨gb238, 0, none⟩ = some (.slice none 0 0) := (blk_cell BK238.out 0).trans rfl; have hcz21_1 : w19.cell? ⟨gb238, 1, none⟩ = some (.slice none 0 0) := (blk_cell BK238.out 1).trans rfl; have hfz21_0 := blk_frozen BK238.out 0; have hfz21_1 := blk_frozen BK238.out 1))
      refine bodyPost_ret (results_ct rfl _ _ gb238 37 #[.slice Ao15 t242.length co15, .slice Ao18 t245.length co18] (0, 0) _ rfl (by refine bk_ ?_; refine blk_put (cs := #[.slice Ao15 t242.length co15, .slice none 0 0]) ?_ 1 _ rfl; refine bk_ ?_; refine blk_put (cs := #[.slice none 0 0, .slice none 0 0]) ?_ 0 _ rfl; exact bk_ BK238.out) Tryd.underlying37 rfl (by kernel_rfl)) rfl ?_
      exact ⟨_, _, by first | rfl | (simp [errW_none, errW_some] <;> rfl) | (simp [*, errW_none, errW_some] <;> rfl), by refine rr_ ?_; exact Kd.R_mono (Kd.R_far (p := ⟨gb238, 1, none⟩) (Kd.R_far (p := ⟨gb238, 0, none⟩) (Kd.R_types HO244.out BK238.out (by decide)) (fun _ hk => hk.2) (.slice Ao15 t242.length co15)) (fun _ hk => hk.2) (.slice Ao18 t245.length co18)) (fun _ hk => trivial), by refine rr_ ?_; exact Kd.R_mono (Kd.R_far (p := ⟨gb238, 1, none⟩) (Kd.R_far (p := ⟨gb238, 0, none⟩) (Kd.R_types HO247.out BK238.out (by decide)) (fun _ hk => hk.2) (.slice Ao15 t242.length co15)) (fun _ hk => hk.2) (.slice Ao18 t245.length co18)) (fun _ hk => trivial), by exact bS⟩
     ·rw [if_neg c11] at H
      have c11b0 : (t250.toList == a0.toList) = false := beq_eq_false_iff_ne.mpr c11
      have c11b1 : (t250.toList != a0.toList) = true := bne_iff_ne.mpr c11
      simp only [Option.some.injEq, Prod.mk.injEq] at H
      obtain ⟨rfl, rfl, rfl⟩ := H
      obtain ⟨Ao22, co22, eo22⟩ := Kd.R_slice HO_4.out
      subst eo22
      go_wp2_with (first | ((with_reducible refine gate_callee (f := 42) rfl ?_); refine goesL_ (some 15) rfl rfl Tryd.func42 (by kernel_rfl) rfl #[.slice Ao22 x4_1.length co22] rfl lm_ ?_; (with_reducible refine (impl_readPath.calls kj1 (fun k_ => some k_ = (.slice Ao22 x4_1.length co22 : Value).ownBlock) _ _ x4_1 t242 t245 true _ ?side1 ?hT_ A7.out).mono ?_); (case hT_ => exact Tab.Is.below HTB_.out bS); (case side1 => exact Kd.R_V (Kd.R_tight rfl (Kd.R_types (HO_4.out) BK238.out (by decide)))); rintro e w23 ⟨v243, v246, rfl, ho0, ho1, hb⟩; refine ⟨_, rfl, ?_⟩; replace HO_4 := Aside0.mk (Kd.R_below (rr_ HO_4.out) hb); have HO244 := Aside0.mk (Kd.R_lower (Kd.R_mono (ok' := fun k_ => True) ho0 (fun _ hk_ => trivial)) (below_size bS)); have HO247 := Aside0.mk (Kd.R_lower (Kd.R_mono (ok' := fun k_ => True) ho1 (fun _ hk_ => trivial)) (below_size bS)); replace BK238 := Aside0.mk (blk_below (bk_ BK238.out) hb); replace HB := Aside0.mk (below_step bS hb); (try clear hb ho0 ho1)) | ((with_reducible refine gate_dst (N := 5) rfl ?_); refine box_event ?hg (N := 5) ?hd (cs := #[.slice none 0 0, .slice none 0 0]) (t := 37) ?hr ?_; (case hd => rfl); (case hg => rfl); (case hr => first | (go_simp; done) | (go_simp; rfl)); intro gb249 hg w24 hbox hb; replace HO_4 := Aside0.mk (Kd.R_below (rr_ HO_4.out) hb); replace HO244 := Aside0.mk (Kd.R_below (rr_ HO244.out) hb); replace HO247 := Aside0.mk (Kd.R_below (rr_ HO247.out) hb); have BK249 := Aside0.mk (hbox); have GW249 := Aside0.mk ((by rw [hg]; exact (below_size bS) : w.heap.size ≤ gb249)); have GE249 := Aside0.mk ((by rw [hg]; exact (below_size bS) : w.heap.size ≤ gb249)); replace HB := Aside0.mk (below_step bS hb); have NB238_249 := Aside0.mk ((by rw [hg]; exact Nat.ne_of_lt (blk_lt (bk_ BK238.out)) : gb238 ≠ gb249)); have NB249_238 := Aside0.mk ((by rw [hg]; exact Nat.ne_of_gt (blk_lt (bk_ BK238.out)) : gb249 ≠ gb238)); replace BK238 := Aside0.mk (blk_below (bk_ BK238.out) hb); clear hb hbox hg; obtain ⟨Ao25, co25, eo25⟩ := Kd.R_slice HO244.out; subst eo25; have hnb26 := NB249_238.out; have hnc26 := NB238_249.out; have hcz27_0 : w24.cell? ⟨gb249, 0, none⟩ = some (.slice none 0 0) := (blk_cell BK249.out 0).trans rfl; have hcz27_1 : w24.cell? ⟨gb249, 1, none⟩ = some (.slice none 0 0) := (blk_cell BK249.out 1).trans rfl; have hfz27_0 := blk_frozen BK249.out 0; have hfz27_1 := blk_frozen BK249.out 1; obtain ⟨Ao28, co28, eo28⟩ := Kd.R_slice HO247.out; subst eo28) | ((with_reducible refine gate_callee (f := 15) rfl ?_); refine goesL_ (some 20) rfl rfl Tryd.func15 (by kernel_rfl) rfl #[.agg #[.slice Ao25 t242.length co25, .slice Ao28 t245.length co28]] rfl lm_ ?_; (with_reducible refine (impl_PathText.calls kj1 _ _ t242 _ _ t245 t250 true _ ?side1 ?side2 ?side3 ?side4 ?hT_ A8.out).mono ?_); (case hT_ => exact Tab.Is.below HTB_.out bS); (case side1 => refine (Kd.R_reads' (e := 3) (base := w.heap.size) (ok := fun k_ => True) (n := t242.length) (c := co25) ?_).2.2; exact (by refine rr_ ?_; exact (Kd.R_mono (Kd.R_far (p := ⟨gb249, 1, none⟩) (Kd.R_far (p := ⟨gb249, 0, none⟩) (Kd.R_types HO244.out BK249.out (by decide)) (fun _ hk => hk.2) (.slice Ao25 t242.length co25)) (fun _ hk => hk.2) (.slice Ao28 t245.length co28)) (fun _ h_ => h_.1)))); (case side2 => exact (Kd.R_reads' HO244.out).2.1); (case side3 => refine (Kd.R_reads' (e := 55) (base := w.heap.size) (ok := fun k_ => True) (n := t245.length) (c := co28) ?_).2.2; exact (by refine rr_ ?_; exact (Kd.R_mono (Kd.R_far (p := ⟨gb249, 1, none⟩) (Kd.R_far (p := ⟨gb249, 0, none⟩) (Kd.R_types HO247.out BK249.out (by decide)) (fun _ hk => hk.2) (.slice Ao25 t242.length co25)) (fun _ hk => hk.2) (.slice Ao28 t245.length co28)) (fun _ h_ => h_.1)))); (case side4 => exact (Kd.R_reads' HO247.out).2.1); rintro e w29 ⟨rfl, hb⟩; refine ⟨_, rfl, ?_⟩; replace HO_4 := Aside0.mk (Kd.R_below (by refine rr_ ?_; exact (Kd.R_mono (Kd.R_far (p := ⟨gb249, 1, none⟩) (Kd.R_far (p := ⟨gb249, 0, none⟩) (Kd.R_types HO_4.out BK249.out (by decide)) (fun _ hk => hk.2) (.slice Ao25 t242.length co25)) (fun _ hk => hk.2) (.slice Ao28 t245.length co28)) (fun _ h_ => h_.1))) hb); replace HO244 := Aside0.mk (Kd.R_below (by refine rr_ ?_; exact (Kd.R_mono (Kd.R_far (p := ⟨gb249, 1, none⟩) (Kd.R_far (p := ⟨gb249, 0, none⟩) (Kd.R_types HO244.out BK249.out (by decide)) (fun _ hk => hk.2) (.slice Ao25 t242.length co25)) (fun _ hk => hk.2) (.slice Ao28 t245.length co28)) (fun _ h_ => h_.1))) hb); replace HO247 := Aside0.mk (Kd.R_below (by refine rr_ ?_; exact (Kd.R_mono (Kd.R_far (p := ⟨gb249, 1, none⟩) (Kd.R_far (p := ⟨gb249, 0, none⟩) (Kd.R_types HO247.out BK249.out (by decide)) (fun _ hk => hk.2) (.slice Ao25 t242.length co25)) (fun _ hk => hk.2) (.slice Ao28 t245.length co28)) (fun _ h_ => h_.1))) hb); replace BK238 := Aside0.mk (blk_below (bf_ BK238.out) hb); replace BK249 := Aside0.mk (blk_below (g := gb249) (o := .cells #[.slice Ao25 t242.length co25, .slice Ao28 t245.length co28] 37 (0, 0)) (by refine bk_ ?_; refine blk_put (cs := #[.slice Ao25 t242.length co25, .slice none 0 0]) ?_ 1 _ rfl; refine bk_ ?_; refine blk_put (cs := #[.slice none 0 0, .slice none 0 0]) ?_ 0 _ rfl; exact bk_ BK249.out) hb); replace HB := Aside0.mk (below_step bS hb); (try clear hb); have hcz30_0 : w29.cell? ⟨gb238, 0, none⟩ = some (.slice none 0 0) := (blk_cell BK238.out 0).trans rfl; have hcz30_1 : w29.cell? ⟨gb238, 1, none⟩ = some (.slice none 0 0) := (blk_cell BK238.out 1).trans rfl; have hfz30_0 := blk_frozen BK238.out 0; have hfz30_1 := blk_frozen BK238.out 1))
      refine bodyPost_ret (results_ct rfl _ _ gb238 37 #[.slice none 0 0, .slice none 0 0] (0, 0) _ rfl (by refine bk_ ?_; refine blk_put (cs := #[.slice none 0 0, .slice none 0 0]) ?_ 1 _ rfl; refine bk_ ?_; refine blk_put (cs := #[.slice none 0 0, .slice none 0 0]) ?_ 0 _ rfl; exact bk_ BK238.out) Tryd.underlying37 rfl (by kernel_rfl)) rfl ?_
      exact ⟨_, _, by first | rfl | (simp [errW_none, errW_some] <;> rfl) | (simp [*, errW_none, errW_some] <;> rfl), by first | exact Kd.R_nil _ _ _ _ _ | exact Kd.N_nil _ _ _ _ _ | exact Kd.V_nil _ _ _ _ _ | exact Kd.Q_nil _ _ _ _ _ | exact Kd.S_nil _ _ _ _ _, by first | exact Kd.R_nil _ _ _ _ _ | exact Kd.N_nil _ _ _ _ _ | exact Kd.V_nil _ _ _ _ _ | exact Kd.Q_nil _ _ _ _ _ | exact Kd.S_nil _ _ _ _ _, by exact bS⟩
    ·replace c10 := Bool.eq_false_iff.mpr c10
     subst c10
     have H1 : (some (([] : List Int), ([] : List (S55)), false)) = some (r1, r2, r3) := by rw [if_neg (show ¬ (false = true) by decide)] at H; exact H
     clear H
     have H := H1
     clear H1
     simp only [Option.some.injEq, Prod.mk.injEq] at H
     obtain ⟨rfl, rfl, rfl⟩ := H
     obtain ⟨Ao31, co31, eo31⟩ := Kd.R_slice HO_4.out
     subst eo31
     go_wp2_with (first | ((with_reducible refine gate_callee (f := 42) rfl ?_); refine goesL_ (some 15) rfl rfl Tryd.func42 (by kernel_rfl) rfl #[.slice Ao31 x4_1.length co31] rfl lm_ ?_; (with_reducible refine (impl_readPath.calls kj1 (fun k_ => some k_ = (.slice Ao31 x4_1.length co31 : Value).ownBlock) _ _ x4_1 t242 t245 true _ ?side1 ?hT_ A7.out).mono ?_); (case hT_ => exact Tab.Is.below HTB_.out bS); (case side1 => exact Kd.R_V (Kd.R_tight rfl (Kd.R_types (HO_4.out) BK238.out (by decide)))); rintro e w32 ⟨v243, v246, rfl, ho0, ho1, hb⟩; refine ⟨_, rfl, ?_⟩; replace HO_4 := Aside0.mk (Kd.R_below (rr_ HO_4.out) hb); have HO244 := Aside0.mk (Kd.R_lower (Kd.R_mono (ok' := fun k_ => True) ho0 (fun _ hk_ => trivial)) (below_size bS)); have HO247 := Aside0.mk (Kd.R_lower (Kd.R_mono (ok' := fun k_ => True) ho1 (fun _ hk_ => trivial)) (below_size bS)); replace BK238 := Aside0.mk (blk_below (bk_ BK238.out) hb); replace HB := Aside0.mk (below_step bS hb); (try clear hb ho0 ho1)) | ((with_reducible refine gate_dst (N := 5) rfl ?_); refine box_event ?hg (N := 5) ?hd (cs := #[.slice none 0 0, .slice none 0 0]) (t := 37) ?hr ?_; (case hd => rfl); (case hg => rfl); (case hr => first | (go_simp; done) | (go_simp; rfl)); intro gb249 hg w33 hbox hb; replace HO_4 := Aside0.mk (Kd.R_below (rr_ HO_4.out) hb); replace HO244 := Aside0.mk (Kd.R_below (rr_ HO244.out) hb); replace HO247 := Aside0.mk (Kd.R_below (rr_ HO247.out) hb); have BK249 := Aside0.mk (hbox); have GW249 := Aside0.mk ((by rw [hg]; exact (below_size bS) : w.heap.size ≤ gb249)); have GE249 := Aside0.mk ((by rw [hg]; exact (below_size bS) : w.heap.size ≤ gb249)); replace HB := Aside0.mk (below_step bS hb); have NB238_249 := Aside0.mk ((by rw [hg]; exact Nat.ne_of_lt (blk_lt (bk_ BK238.out)) : gb238 ≠ gb249)); have NB249_238 := Aside0.mk ((by rw [hg]; exact Nat.ne_of_gt (blk_lt (bk_ BK238.out)) : gb249 ≠ gb238)); replace BK238 := Aside0.mk (blk_below (bk_ BK238.out) hb); clear hb hbox hg; obtain ⟨Ao34, co34, eo34⟩ := Kd.R_slice HO244.out; subst eo34; have hnb35 := NB249_238.out; have hnc35 := NB238_249.out; have hcz36_0 : w33.cell? ⟨gb249, 0, none⟩ = some (.slice none 0 0) := (blk_cell BK249.out 0).trans rfl; have hcz36_1 : w33.cell? ⟨gb249, 1, none⟩ = some (.slice none 0 0) := (blk_cell BK249.out 1).trans rfl; have hfz36_0 := blk_frozen BK249.out 0; have hfz36_1 := blk_frozen BK249.out 1; obtain ⟨Ao37, co37, eo37⟩ := Kd.R_slice HO247.out; subst eo37) | ((with_reducible refine gate_callee (f := 15) rfl ?_); refine goesL_ (some 20) rfl rfl Tryd.func15 (by kernel_rfl) rfl #[.agg #[.slice Ao34 t242.length co34, .slice Ao37 t245.length co37]] rfl lm_ ?_; (with_reducible refine (impl_PathText.calls kj1 _ _ t242 _ _ t245 t250 false _ ?side1 ?side2 ?side3 ?side4 ?hT_ A8.out).mono ?_); (case hT_ => exact Tab.Is.below HTB_.out bS); (case side1 => refine (Kd.R_reads' (e := 3) (base := w.heap.size) (ok := fun k_ => True) (n := t242.length) (c := co34) ?_).2.2; exact (by refine rr_ ?_; exact (Kd.R_mono (Kd.R_far (p := ⟨gb249, 1, none⟩) (Kd.R_far (p := ⟨gb249, 0, none⟩) (Kd.R_types HO244.out BK249.out (by decide)) (fun _ hk => hk.2) (.slice Ao34 t242.length co34)) (fun _ hk => hk.2) (.slice Ao37 t245.length co37)) (fun _ h_ => h_.1)))); (case side2 => exact (Kd.R_reads' HO244.out).2.1); (case side3 => refine (Kd.R_reads' (e := 55) (base := w.heap.size) (ok := fun k_ => True) (n := t245.length) (c := co37) ?_).2.2; exact (by refine rr_ ?_; exact (Kd.R_mono (Kd.R_far (p := ⟨gb249, 1, none⟩) (Kd.R_far (p := ⟨gb249, 0, none⟩) (Kd.R_types HO247.out BK249.out (by decide)) (fun _ hk => hk.2) (.slice Ao34 t242.length co34)) (fun _ hk => hk.2) (.slice Ao37 t245.length co37)) (fun _ h_ => h_.1)))); (case side4 => exact (Kd.R_reads' HO247.out).2.1); rintro e w38 ⟨rfl, hb⟩; refine ⟨_, rfl, ?_⟩; replace HO_4 := Aside0.mk (Kd.R_below (by refine rr_ ?_; exact (Kd.R_mono (Kd.R_far (p := ⟨gb249, 1, none⟩) (Kd.R_far (p := ⟨gb249, 0, none⟩) (Kd.R_types HO_4.out BK249.out (by decide)) (fun _ hk => hk.2) (.slice Ao34 t242.length co34)) (fun _ hk => hk.2) (.slice Ao37 t245.length co37)) (fun _ h_ => h_.1))) hb); replace HO244 := Aside0.mk (Kd.R_below (by refine rr_ ?_; exact (Kd.R_mono (Kd.R_far (p := ⟨gb249, 1, none⟩) (Kd.R_far (p := ⟨gb249, 0, none⟩) (Kd.R_types HO244.out BK249.out (by decide)) (fun _ hk => hk.2) (.slice Ao34 t242.length co34)) (fun _ hk => hk.2) (.slice Ao37 t245.length co37)) (fun _ h_ => h_.1))) hb); replace HO247 := Aside0.mk (Kd.R_below (by refine rr_ ?_; exact (Kd.R_mono (Kd.R_far (p := ⟨gb249, 1, none⟩) (Kd.R_far (p := ⟨gb249, 0, none⟩) (Kd.R_types HO247.out BK249.out (by decide)) (fun _ hk => hk.2) (.slice Ao34 t242.length co34)) (fun _ hk => hk.2) (.slice Ao37 t245.length co37)) (fun _ h_ => h_.1))) hb); replace BK238 := Aside0.mk (blk_below (bf_ BK238.out) hb); replace BK249 := Aside0.mk (blk_below (g := gb249) (o := .cells #[.slice Ao34 t242.length co34, .slice Ao37 t245.length co37] 37 (0, 0)) (by refine bk_ ?_; refine blk_put (cs := #[.slice Ao34 t242.length co34, .slice none 0 0]) ?_ 1 _ rfl; refine bk_ ?_; refine blk_put (cs := #[.slice none 0 0, .slice none 0 0]) ?_ 0 _ rfl; exact bk_ BK249.out) hb); replace HB := Aside0.mk (below_step bS hb); (try clear hb); have hcz39_0 : w38.cell? ⟨gb238, 0, none⟩ = some (.slice none 0 0) := (blk_cell BK238.out 0).trans rfl; have hcz39_1 : w38.cell? ⟨gb238, 1, none⟩ = some (.slice none 0 0) := (blk_cell BK238.out 1).trans rfl; have hfz39_0 := blk_frozen BK238.out 0; have hfz39_1 := blk_frozen BK238.out 1))
     refine bodyPost_ret (results_ct rfl _ _ gb238 37 #[.slice none 0 0, .slice none 0 0] (0, 0) _ rfl (by refine bk_ ?_; refine blk_put (cs := #[.slice none 0 0, .slice none 0 0]) ?_ 1 _ rfl; refine bk_ ?_; refine blk_put (cs := #[.slice none 0 0, .slice none 0 0]) ?_ 0 _ rfl; exact bk_ BK238.out) Tryd.underlying37 rfl (by kernel_rfl)) rfl ?_
     exact ⟨_, _, by first | rfl | (simp [errW_none, errW_some] <;> rfl) | (simp [*, errW_none, errW_some] <;> rfl), by first | exact Kd.R_nil _ _ _ _ _ | exact Kd.N_nil _ _ _ _ _ | exact Kd.V_nil _ _ _ _ _ | exact Kd.Q_nil _ _ _ _ _ | exact Kd.S_nil _ _ _ _ _, by first | exact Kd.R_nil _ _ _ _ _ | exact Kd.N_nil _ _ _ _ _ | exact Kd.V_nil _ _ _ _ _ | exact Kd.Q_nil _ _ _ _ _ | exact Kd.S_nil _ _ _ _ _, by exact bS⟩
   ·replace c9 := Bool.eq_false_iff.mpr c9
    subst c9
    have H1 : (some (([] : List Int), ([] : List (S55)), false)) = some (r1, r2, r3) := by rw [if_neg (show ¬ (false = true) by decide)] at H; exact H
    clear H
    have H := H1
    clear H1
    simp only [Option.some.injEq, Prod.mk.injEq] at H
    obtain ⟨rfl, rfl, rfl⟩ := H
    obtain ⟨Ao40, co40, eo40⟩ := Kd.R_slice HO_4.out
    subst eo40
    go_wp2_with (first | ((with_reducible refine gate_callee (f := 42) rfl ?_); refine goesL_ (some 15) rfl rfl Tryd.func42 (by kernel_rfl) rfl #[.slice Ao40 x4_1.length co40] rfl lm_ ?_; (with_reducible refine (impl_readPath.calls kj1 (fun k_ => some k_ = (.slice Ao40 x4_1.length co40 : Value).ownBlock) _ _ x4_1 t242 t245 false _ ?side1 ?hT_ A7.out).mono ?_); (case hT_ => exact Tab.Is.below HTB_.out bS); (case side1 => exact Kd.R_V (Kd.R_tight rfl (Kd.R_types (HO_4.out) BK238.out (by decide)))); rintro e w41 ⟨v243, v246, rfl, ho0, ho1, hb⟩; refine ⟨_, rfl, ?_⟩; replace HO_4 := Aside0.mk (Kd.R_below (rr_ HO_4.out) hb); have HO244 := Aside0.mk (Kd.R_lower (Kd.R_mono (ok' := fun k_ => True) ho0 (fun _ hk_ => trivial)) (below_size bS)); have HO247 := Aside0.mk (Kd.R_lower (Kd.R_mono (ok' := fun k_ => True) ho1 (fun _ hk_ => trivial)) (below_size bS)); replace BK238 := Aside0.mk (blk_below (bk_ BK238.out) hb); replace HB := Aside0.mk (below_step bS hb); (try clear hb ho0 ho1)) | ((with_reducible refine gate_dst (N := 5) rfl ?_); refine box_event ?hg (N := 5) ?hd (cs := #[.slice none 0 0, .slice none 0 0]) (t := 37) ?hr ?_; (case hd => rfl); (case hg => rfl); (case hr => first | (go_simp; done) | (go_simp; rfl)); intro gb249 hg w42 hbox hb; replace HO_4 := Aside0.mk (Kd.R_below (rr_ HO_4.out) hb); replace HO244 := Aside0.mk (Kd.R_below (rr_ HO244.out) hb); replace HO247 := Aside0.mk (Kd.R_below (rr_ HO247.out) hb); have BK249 := Aside0.mk (hbox); have GW249 := Aside0.mk ((by rw [hg]; exact (below_size bS) : w.heap.size ≤ gb249)); have GE249 := Aside0.mk ((by rw [hg]; exact (below_size bS) : w.heap.size ≤ gb249)); replace HB := Aside0.mk (below_step bS hb); have NB238_249 := Aside0.mk ((by rw [hg]; exact Nat.ne_of_lt (blk_lt (bk_ BK238.out)) : gb238 ≠ gb249)); have NB249_238 := Aside0.mk ((by rw [hg]; exact Nat.ne_of_gt (blk_lt (bk_ BK238.out)) : gb249 ≠ gb238)); replace BK238 := Aside0.mk (blk_below (bk_ BK238.out) hb); clear hb hbox hg; obtain ⟨Ao43, co43, eo43⟩ := Kd.R_slice HO244.out; subst eo43; have hnb44 := NB249_238.out; have hnc44 := NB238_249.out; have hcz45_0 : w42.cell? ⟨gb249, 0, none⟩ = some (.slice none 0 0) := (blk_cell BK249.out 0).trans rfl; have hcz45_1 : w42.cell? ⟨gb249, 1, none⟩ = some (.slice none 0 0) := (blk_cell BK249.out 1).trans rfl; have hfz45_0 := blk_frozen BK249.out 0; have hfz45_1 := blk_frozen BK249.out 1; obtain ⟨Ao46, co46, eo46⟩ := Kd.R_slice HO247.out; subst eo46) | ((with_reducible refine gate_callee (f := 15) rfl ?_); refine goesL_ (some 20) rfl rfl Tryd.func15 (by kernel_rfl) rfl #[.agg #[.slice Ao43 t242.length co43, .slice Ao46 t245.length co46]] rfl lm_ ?_; (with_reducible refine (impl_PathText.calls kj1 _ _ t242 _ _ t245 t250 t251 _ ?side1 ?side2 ?side3 ?side4 ?hT_ A8.out).mono ?_); (case hT_ => exact Tab.Is.below HTB_.out bS); (case side1 => refine (Kd.R_reads' (e := 3) (base := w.heap.size) (ok := fun k_ => True) (n := t242.length) (c := co43) ?_).2.2; exact (by refine rr_ ?_; exact (Kd.R_mono (Kd.R_far (p := ⟨gb249, 1, none⟩) (Kd.R_far (p := ⟨gb249, 0, none⟩) (Kd.R_types HO244.out BK249.out (by decide)) (fun _ hk => hk.2) (.slice Ao43 t242.length co43)) (fun _ hk => hk.2) (.slice Ao46 t245.length co46)) (fun _ h_ => h_.1)))); (case side2 => exact (Kd.R_reads' HO244.out).2.1); (case side3 => refine (Kd.R_reads' (e := 55) (base := w.heap.size) (ok := fun k_ => True) (n := t245.length) (c := co46) ?_).2.2; exact (by refine rr_ ?_; exact (Kd.R_mono (Kd.R_far (p := ⟨gb249, 1, none⟩) (Kd.R_far (p := ⟨gb249, 0, none⟩) (Kd.R_types HO247.out BK249.out (by decide)) (fun _ hk => hk.2) (.slice Ao43 t242.length co43)) (fun _ hk => hk.2) (.slice Ao46 t245.length co46)) (fun _ h_ => h_.1)))); (case side4 => exact (Kd.R_reads' HO247.out).2.1); rintro e w47 ⟨rfl, hb⟩; refine ⟨_, rfl, ?_⟩; replace HO_4 := Aside0.mk (Kd.R_below (by refine rr_ ?_; exact (Kd.R_mono (Kd.R_far (p := ⟨gb249, 1, none⟩) (Kd.R_far (p := ⟨gb249, 0, none⟩) (Kd.R_types HO_4.out BK249.out (by decide)) (fun _ hk => hk.2) (.slice Ao43 t242.length co43)) (fun _ hk => hk.2) (.slice Ao46 t245.length co46)) (fun _ h_ => h_.1))) hb); replace HO244 := Aside0.mk (Kd.R_below (by refine rr_ ?_; exact (Kd.R_mono (Kd.R_far (p := ⟨gb249, 1, none⟩) (Kd.R_far (p := ⟨gb249, 0, none⟩) (Kd.R_types HO244.out BK249.out (by decide)) (fun _ hk => hk.2) (.slice Ao43 t242.length co43)) (fun _ hk => hk.2) (.slice Ao46 t245.length co46)) (fun _ h_ => h_.1))) hb); replace HO247 := Aside0.mk (Kd.R_below (by refine rr_ ?_; exact (Kd.R_mono (Kd.R_far (p := ⟨gb249, 1, none⟩) (Kd.R_far (p := ⟨gb249, 0, none⟩) (Kd.R_types HO247.out BK249.out (by decide)) (fun _ hk => hk.2) (.slice Ao43 t242.length co43)) (fun _ hk => hk.2) (.slice Ao46 t245.length co46)) (fun _ h_ => h_.1))) hb); replace BK238 := Aside0.mk (blk_below (bf_ BK238.out) hb); replace BK249 := Aside0.mk (blk_below (g := gb249) (o := .cells #[.slice Ao43 t242.length co43, .slice Ao46 t245.length co46] 37 (0, 0)) (by refine bk_ ?_; refine blk_put (cs := #[.slice Ao43 t242.length co43, .slice none 0 0]) ?_ 1 _ rfl; refine bk_ ?_; refine blk_put (cs := #[.slice none 0 0, .slice none 0 0]) ?_ 0 _ rfl; exact bk_ BK249.out) hb); replace HB := Aside0.mk (below_step bS hb); (try clear hb); have hcz48_0 : w47.cell? ⟨gb238, 0, none⟩ = some (.slice none 0 0) := (blk_cell BK238.out 0).trans rfl; have hcz48_1 : w47.cell? ⟨gb238, 1, none⟩ = some (.slice none 0 0) := (blk_cell BK238.out 1).trans rfl; have hfz48_0 := blk_frozen BK238.out 0; have hfz48_1 := blk_frozen BK238.out 1))
    refine bodyPost_ret (results_ct rfl _ _ gb238 37 #[.slice none 0 0, .slice none 0 0] (0, 0) _ rfl (by refine bk_ ?_; refine blk_put (cs := #[.slice none 0 0, .slice none 0 0]) ?_ 1 _ rfl; refine bk_ ?_; refine blk_put (cs := #[.slice none 0 0, .slice none 0 0]) ?_ 0 _ rfl; exact bk_ BK238.out) Tryd.underlying37 rfl (by kernel_rfl)) rfl ?_
    exact ⟨_, _, by first | rfl | (simp [errW_none, errW_some] <;> rfl) | (simp [*, errW_none, errW_some] <;> rfl), by first | exact Kd.R_nil _ _ _ _ _ | exact Kd.N_nil _ _ _ _ _ | exact Kd.V_nil _ _ _ _ _ | exact Kd.Q_nil _ _ _ _ _ | exact Kd.S_nil _ _ _ _ _, by first | exact Kd.R_nil _ _ _ _ _ | exact Kd.N_nil _ _ _ _ _ | exact Kd.V_nil _ _ _ _ _ | exact Kd.Q_nil _ _ _ _ _ | exact Kd.S_nil _ _ _ _ _, by exact bS⟩

/-! ### laws_big: function 21 -/
def laws_big.f (l0 : List Int) : Option (Bool) := some (decide ((l0.length : Int) > 1048576))
set_option maxHeartbeats 8000000 in
set_option maxRecDepth 100000 in
theorem laws_big.calls (A0 : Option Addr) (c0 : Nat) (l0 : List Int) (r : Bool) (w : World) (hr0 : Kd.C (Kd.int .u8) w A0 l0.length l0) (hc0 : l0.length ≤ c0) (h : laws_big.f l0 = some r) :
    Calls Tryd.prog 21 #[.slice A0 l0.length c0] w fun e w' => e = .returned (.bool r) ∧ Drawn0 w w' := by
 have HR0 := Aside0.mk hr0
 have HC0 := Aside0.mk hc0
 clear hr0 hc0
 have H : (some (decide ((l0.length : Int) > 1048576))) = some r := h
 clear h
 obtain rfl := Option.some.inj H
 go_enter Tryd.func21, Tryd.ntmps21
 go_wp2
 go_ret
 exact ⟨by first | rfl | (simp; done) | (simp [*]; done), by repeat (first | exact Drawn0.refl _ | apply Drawn0.step)⟩

/-- A state of type 92 at block g of W; what its slices lead to came in by w0. -/
def IsS92 (w0 W : World) (g : Nat) (f0 : List Int) (f1 : Int) (f2 : Int) : Prop := ∃ A0 c0, W.heap[g]? = some (.cells #[.slice A0 f0.length c0, .int .i64 f1, .int .i64 f2] 92 (0, 0)) ∧ w0.heap.size ≤ g ∧ Kd.C (Kd.int .u8) w0 A0 f0.length f0
theorem IsS92.grown {w0 W : World} {g : Nat} {f0 : List Int} {f1 : Int} {f2 : Int} {W1 : World} {row : Option Nat} (h : IsS92 w0 W g f0 f1 f2) (hw : W.grownBy W1 row) (hne : some g ≠ row) : IsS92 w0 W1 g f0 f1 f2 := by
  obtain ⟨A0, c0, hb, hg, hr0⟩ := h
  exact ⟨A0, c0, blk_grown hb hw hne, hg, hr0⟩
theorem IsS92.own_neN {w0 W : World} {g : Nat} {f0 : List Int} {f1 : Int} {f2 : Int} {α : Type} {d : Kd α} {e : Nat} {base : Nat} {ok : Nat → Prop} {v : Value} {xs : List α} (h : IsS92 w0 W g f0 f1 f2) (ho : Kd.N d e W base ok v xs) (ht : e ≠ 92) : some g ≠ v.ownBlock := by
  obtain ⟨A0, c0, hb, hg, hr0⟩ := h
  exact Kd.N_ne ho hb ht
theorem IsS92.fresh {w0 W : World} {g : Nat} {f0 : List Int} {f1 : Int} {f2 : Int} (h : IsS92 w0 W g f0 f1 f2) : ∀ k, W.heap.size ≤ k → k ≠ g := by
  obtain ⟨A0, c0, hb, hg, hr0⟩ := h
  exact Kd.freshB hb
theorem IsS92.kept {w0 W : World} {g : Nat} {f0 : List Int} {f1 : Int} {f2 : Int} {W1 : World} {S : Nat → Prop} (h : IsS92 w0 W g f0 f1 f2) (hk : Kept W W1 S) (hne : ¬ S g) : IsS92 w0 W1 g f0 f1 f2 := by
  obtain ⟨A0, c0, hb, hg, hr0⟩ := h
  exact ⟨A0, c0, blk_kept hb hk hne, hg, hr0⟩
theorem IsS92.below {w0 W : World} {g : Nat} {f0 : List Int} {f1 : Int} {f2 : Int} {W1 : World} (h : IsS92 w0 W g f0 f1 f2) (hw : Below W.heap.size W W1) : IsS92 w0 W1 g f0 f1 f2 := h.grown (grown_of_below hw none) (by simp)
theorem IsS92.alloc {w0 W : World} {g : Nat} {f0 : List Int} {f1 : Int} {f2 : Int} (h : IsS92 w0 W g f0 f1 f2) (o : Obj) : IsS92 w0 (W.alloc o) g f0 f1 f2 := h.below (below_alloc (Below.refl _ _) o)
theorem IsS92.drewN {w0 W : World} {g : Nat} {f0 : List Int} {f1 : Int} {f2 : Int} (h : IsS92 w0 W g f0 f1 f2) (m : Nat) : IsS92 w0 (W.drewN m) g f0 f1 f2 := h
theorem IsS92.drew {w0 W : World} {g : Nat} {f0 : List Int} {f1 : Int} {f2 : Int} (h : IsS92 w0 W g f0 f1 f2) : IsS92 w0 W.drew g f0 f1 f2 := h
theorem IsS92.at_ {w0 W : World} {g : Nat} {f0 : List Int} {f1 : Int} {f2 : Int} {w' : World} {m : Nat} (hq : W.drewN m = w') (h : IsS92 w0 W g f0 f1 f2) : IsS92 w0 w' g f0 f1 f2 := by subst hq; exact IsS92.drewN h m
theorem IsS92.apart {w0 W : World} {g : Nat} {f0 : List Int} {f1 : Int} {f2 : Int} {α : Type} {d : Kd α} {e : Nat} {base : Nat} {ok : Nat → Prop} {v : Value} {xs : List α} (h : IsS92 w0 W g f0 f1 f2) (ho : d.R e W base ok v xs) (ht : ∀ q, q ∈ e :: d.E → q ≠ 92) : d.R e W base (fun k => ok k ∧ k ≠ g) v xs := by
  obtain ⟨A0, c0, hb, hg, hr0⟩ := h
  exact Kd.R_types ho hb ht
theorem IsS92.own_ne {w0 W : World} {g : Nat} {f0 : List Int} {f1 : Int} {f2 : Int} {α : Type} {d : Kd α} {e : Nat} {base : Nat} {ok : Nat → Prop} {v : Value} {xs : List α} (h : IsS92 w0 W g f0 f1 f2) (ho : d.R e W base ok v xs) (ht : e ≠ 92) : some g ≠ v.ownBlock := by
  obtain ⟨A0, c0, hb, hg, hr0⟩ := h
  exact Kd.R_ne ho hb ht
theorem IsS92.apartQ {w0 W : World} {g : Nat} {f0 : List Int} {f1 : Int} {f2 : Int} {α : Type} {d : Kd α} {e : Nat} {base : Nat} {ok : Nat → Prop} {v : Value} {xs : List α} (h : IsS92 w0 W g f0 f1 f2) (ho : d.Q e W base ok v xs) (ht : ∀ q, q ∈ e :: d.E → q ≠ 92) : d.Q e W base (fun k => ok k ∧ k ≠ g) v xs := by
  obtain ⟨A0, c0, hb, hg, hr0⟩ := h
  exact Kd.Q_types ho hb ht
theorem IsS92.own_neQ {w0 W : World} {g : Nat} {f0 : List Int} {f1 : Int} {f2 : Int} {α : Type} {d : Kd α} {e : Nat} {base : Nat} {ok : Nat → Prop} {v : Value} {xs : List α} (h : IsS92 w0 W g f0 f1 f2) (ho : d.Q e W base ok v xs) (ht : e ≠ 92) : some g ≠ v.ownBlock := by
  obtain ⟨A0, c0, hb, hg, hr0⟩ := h
  exact Kd.Q_ne ho hb ht
theorem IsS92.apartS {w0 W : World} {g : Nat} {f0 : List Int} {f1 : Int} {f2 : Int} {α : Type} {d : Kd α} {e : Nat} {base : Nat} {ok : Nat → Prop} {v : Value} {xs : List α} (h : IsS92 w0 W g f0 f1 f2) (ho : d.S e W base ok v xs) (ht : ∀ q, q ∈ e :: d.E → q ≠ 92) : d.S e W base (fun k => ok k ∧ k ≠ g) v xs := by
  obtain ⟨A0, c0, hb, hg, hr0⟩ := h
  exact Kd.S_types ho hb ht
theorem IsS92.own_neS {w0 W : World} {g : Nat} {f0 : List Int} {f1 : Int} {f2 : Int} {α : Type} {d : Kd α} {e : Nat} {base : Nat} {ok : Nat → Prop} {v : Value} {xs : List α} (h : IsS92 w0 W g f0 f1 f2) (ho : d.S e W base ok v xs) (ht : e ≠ 92) : some g ≠ v.ownBlock := by
  obtain ⟨A0, c0, hb, hg, hr0⟩ := h
  exact Kd.S_ne ho hb ht
theorem IsS92.lt {w0 W : World} {g : Nat} {f0 : List Int} {f1 : Int} {f2 : Int} (h : IsS92 w0 W g f0 f1 f2) : g < W.heap.size := by
  obtain ⟨A0, c0, hb, hg, hr0⟩ := h
  exact blk_lt hb
theorem IsS92.ge {w0 W : World} {g : Nat} {f0 : List Int} {f1 : Int} {f2 : Int} (h : IsS92 w0 W g f0 f1 f2) : w0.heap.size ≤ g := by
  obtain ⟨A0, c0, hb, hg, hr0⟩ := h
  exact hg
theorem IsS92.ne_blk {w0 W : World} {g : Nat} {f0 : List Int} {f1 : Int} {f2 : Int} {a : Nat} {cs : Array Value} {t : TypeId} {fr : Nat × Nat} (h : IsS92 w0 W g f0 f1 f2) (hb2 : W.heap[a]? = some (.cells cs t fr)) (ht : t ≠ 92) : g ≠ a := by
  obtain ⟨A0, c0, hb, hg, hr0⟩ := h
  rintro rfl
  rw [hb] at hb2
  injection hb2 with hb2
  injection hb2 with _ ht2
  exact ht ht2.symm
theorem IsS92.far {w0 W : World} {g : Nat} {f0 : List Int} {f1 : Int} {f2 : Int} {p : Addr} (h : IsS92 w0 W g f0 f1 f2) (hne : g ≠ p.block) (u : Value) : IsS92 w0 (W.setCell p u) g f0 f1 f2 := by
  obtain ⟨A0, c0, hb, hg, hr0⟩ := h
  exact ⟨A0, c0, blk_far hb hne u, hg, hr0⟩
theorem cellS92_0 {W : World} {g : Nat} {A0 : Option Addr} {c0 : Nat} {f0 : List Int} {f1 : Int} {f2 : Int} (h : W.heap[g]? = some (.cells #[.slice A0 f0.length c0, .int .i64 f1, .int .i64 f2] 92 (0, 0))) : W.cell? ⟨g, 0, none⟩ = some (.slice A0 f0.length c0) := (blk_cell h 0).trans rfl
theorem cellS92_1 {W : World} {g : Nat} {A0 : Option Addr} {c0 : Nat} {f0 : List Int} {f1 : Int} {f2 : Int} (h : W.heap[g]? = some (.cells #[.slice A0 f0.length c0, .int .i64 f1, .int .i64 f2] 92 (0, 0))) : W.cell? ⟨g, 1, none⟩ = some (.int .i64 f1) := (blk_cell h 1).trans rfl
theorem IsS92.set_1 {w0 W : World} {g : Nat} {f0 : List Int} {f1 : Int} {f2 : Int} (h : IsS92 w0 W g f0 f1 f2) (x : Int) : IsS92 w0 (W.setCell ⟨g, 1, none⟩ (.int .i64 x)) g f0 x f2 := by
  obtain ⟨A0, c0, hb, hg, hr0⟩ := h
  exact ⟨A0, c0, by simpa using blk_set hb 1 (.int .i64 x), hg, hr0⟩
theorem cellS92_2 {W : World} {g : Nat} {A0 : Option Addr} {c0 : Nat} {f0 : List Int} {f1 : Int} {f2 : Int} (h : W.heap[g]? = some (.cells #[.slice A0 f0.length c0, .int .i64 f1, .int .i64 f2] 92 (0, 0))) : W.cell? ⟨g, 2, none⟩ = some (.int .i64 f2) := (blk_cell h 2).trans rfl
theorem IsS92.set_2 {w0 W : World} {g : Nat} {f0 : List Int} {f1 : Int} {f2 : Int} (h : IsS92 w0 W g f0 f1 f2) (x : Int) : IsS92 w0 (W.setCell ⟨g, 2, none⟩ (.int .i64 x)) g f0 f1 x := by
  obtain ⟨A0, c0, hb, hg, hr0⟩ := h
  exact ⟨A0, c0, by simpa using blk_set hb 2 (.int .i64 x), hg, hr0⟩
theorem IsS92.new (w0 W : World) (A0 : Option Addr) (c0 : Nat) (f0 : List Int) (f1 : Int) (f2 : Int) (hB : Below w0.heap.size w0 W) (hr0 : Kd.C (Kd.int .u8) w0 A0 f0.length f0) : IsS92 w0 (W.alloc (.cells #[.slice A0 f0.length c0, .int .i64 f1, .int .i64 f2] 92)) W.heap.size f0 f1 f2 := ⟨A0, c0, by simpa using heap_alloc_new W _, hB.size, hr0⟩

theorem iS {P : Prop} (h : P := by repeat (first | (with_reducible first | exact HI0.out | apply IsS92.alloc | apply IsS92.drewN | apply IsS92.drew | apply IsS92.set_1 | apply IsS92.set_2 | refine IsS92.far ?_ (Aside0.out (by assumption)) _) | exact HI0.out)) : P := h
theorem bI {P : Prop} (h : P := by repeat (first | (with_reducible first | exact HB.out | apply below_alloc | apply pw_below_drewN | apply below_drew1 | refine below_set ?_ (IsS92.ge HI0.out) | refine below_set ?_ (Aside0.out (by assumption))) | exact HB.out)) : P := h
theorem iS4 {P : Prop} (h : P := by repeat (first | (with_reducible first | exact HI460.out | apply IsS92.alloc | apply IsS92.drewN | apply IsS92.drew | apply IsS92.set_1 | apply IsS92.set_2 | refine IsS92.far ?_ (Aside0.out (by assumption)) _) | exact HI460.out)) : P := h
theorem bI4 {P : Prop} (h : P := by repeat (first | (with_reducible first | exact HB.out | apply below_alloc | apply pw_below_drewN | apply below_drew1 | refine below_set ?_ (IsS92.ge HI460.out) | refine below_set ?_ (Aside0.out (by assumption))) | exact HB.out)) : P := h
/-! ### spec_l01Byte: function 71 -/
def spec_l01Byte.f (s0_0 : List Int) (s0_1 : Int) (s0_2 : Int) : Option (Int × Int × Int) := if s0_1 < (s0_0.length : Int) then (if 0 ≤ s0_1 then (some (Go.bits .and .i64 (wrap64 ((Go.bits .and .i64 (Go.bits .xor .i64 ((wrap64 ((wrap64 (s0_2 * 6364136223846793005)) + 1442695040888963407)) / 8589934592) ((wrap64 ((wrap64 (s0_2 * 6364136223846793005)) + 1442695040888963407)) / 35184372088832)) 255) + (wrap64 (rd s0_0 s0_1)))) 255, wrap64 (s0_1 + 1), wrap64 ((wrap64 (s0_2 * 6364136223846793005)) + 1442695040888963407))) else (none)) else (some (Go.bits .and .i64 (Go.bits .xor .i64 ((wrap64 ((wrap64 (s0_2 * 6364136223846793005)) + 1442695040888963407)) / 8589934592) ((wrap64 ((wrap64 (s0_2 * 6364136223846793005)) + 1442695040888963407)) / 35184372088832)) 255, s0_1, wrap64 ((wrap64 (s0_2 * 6364136223846793005)) + 1442695040888963407)))
set_option maxHeartbeats 8000000 in
set_option maxRecDepth 100000 in
theorem spec_l01Byte.calls (g : Nat) (s0_0 : List Int) (s0_1 : Int) (s0_2 : Int) (r1 : Int) (r2 : Int) (r3 : Int) (w0 w : World) (hI : IsS92 w0 w g s0_0 s0_1 s0_2) (hB : Below w0.heap.size w0 w) (h : spec_l01Byte.f s0_0 s0_1 s0_2 = some (r1, r2, r3)) :
    Calls Tryd.prog 71 #[.pointer (some ⟨g, 0, none⟩)] w fun e w' => e = .returned (.int .i64 r1) ∧ IsS92 w0 w' g s0_0 r2 r3 ∧ Below w0.heap.size w0 w' ∧ KeepBut w w' g none := by
 have HI0 := Aside0.mk hI
 have HK := Aside0.mk (KeepBut.refl w g none)
 have HL := Aside0.mk hB.size
 clear hI
 have HW0 := Aside0.mk hB.size
 have HB := Aside0.mk hB
 clear hB
 have H : (if s0_1 < (s0_0.length : Int) then (if 0 ≤ s0_1 then (some (Go.bits .and .i64 (wrap64 ((Go.bits .and .i64 (Go.bits .xor .i64 ((wrap64 ((wrap64 (s0_2 * 6364136223846793005)) + 1442695040888963407)) / 8589934592) ((wrap64 ((wrap64 (s0_2 * 6364136223846793005)) + 1442695040888963407)) / 35184372088832)) 255) + (wrap64 (rd s0_0 s0_1)))) 255, wrap64 (s0_1 + 1), wrap64 ((wrap64 (s0_2 * 6364136223846793005)) + 1442695040888963407))) else (none)) else (some (Go.bits .and .i64 (Go.bits .xor .i64 ((wrap64 ((wrap64 (s0_2 * 6364136223846793005)) + 1442695040888963407)) / 8589934592) ((wrap64 ((wrap64 (s0_2 * 6364136223846793005)) + 1442695040888963407)) / 35184372088832)) 255, s0_1, wrap64 ((wrap64 (s0_2 * 6364136223846793005)) + 1442695040888963407)))) = some (r1, r2, r3) := h
 clear h
 by_cases c2 : s0_1 < (s0_0.length : Int)
 ·rw [if_pos c2] at H
  have c2b0 : decide (s0_1 < (s0_0.length : Int)) = true := decide_eq_true c2
  clear c2
  by_cases c3 : 0 ≤ s0_1
  ·rw [if_pos c3] at H
   have c3b0 : decide (0 ≤ s0_1) = true := decide_eq_true c3
   clear c3
   simp only [Option.some.injEq, Prod.mk.injEq] at H
   obtain ⟨rfl, rfl, rfl⟩ := H
   obtain ⟨ASz4_0, cSz4_0, HGz4, hgz4, HSz4_0⟩ := HI0.out
   have hcz4_0 := cellS92_0 HGz4
   have hcz4_1 := cellS92_1 HGz4
   have hcz4_2 := cellS92_2 HGz4
   have hfz4_1 := blk_frozen HGz4 1
   have hfz4_2 := blk_frozen HGz4 2
   clear HGz4 hgz4
   have p252 : 0 ≤ (s0_1 : Int) := of_decide_eq_true as_
   have q252 : s0_1 < (s0_0.length : Int) := of_decide_eq_true as_
   obtain ⟨ad252, e252, hx252_0⟩ := Kd.at_int HSz4_0 s0_1 p252 q252
   cases e252
   have hn252_0 : ad252.block ≠ g := Nat.ne_of_lt (Nat.lt_of_lt_of_le (by have := World.block_lt_of_cell? _ _ hx252_0; first | rwa [add_block] at this | exact this) (IsS92.ge HI0.out))
   replace hx252_0 := pw_cell_below HB.out hx252_0
   replace hx252_0 := (cell_far (p := ⟨g, 2, none⟩) (by first | (rw [add_block]; exact hn252_0) | (show (Addr.add _ _).block ≠ _; rw [add_block]; exact hn252_0) | exact hn252_0) (.int .i64 (wrap64 ((wrap64 (s0_2 * 6364136223846793005)) + 1442695040888963407)))).trans hx252_0
   (try have hy252_0 := fun (n_ : Nat) => (show (((w.drewN n_).setCell ⟨g, 2, none⟩ (.int .i64 (wrap64 ((wrap64 (s0_2 * 6364136223846793005)) + 1442695040888963407))))).cell? _ = some _ from hx252_0))
   clear hn252_0
   replace p252 := eq_true p252
   replace q252 := eq_true q252
   go_enter Tryd.func71, Tryd.ntmps71
   go_wp2
   repeat (go_quiet (fail); try go_wp2)
   go_ret
   exact ⟨by first | rfl | (simp [errW_none, errW_some] <;> rfl) | (simp [*, errW_none, errW_some] <;> rfl), by exact iS, by exact bI, by exact kS⟩
  ·rw [if_neg c3] at H
   exact absurd H (by simp)
 ·rw [if_neg c2] at H
  have c2b0 : decide (s0_1 < (s0_0.length : Int)) = false := decide_eq_false c2
  clear c2
  simp only [Option.some.injEq, Prod.mk.injEq] at H
  obtain ⟨rfl, rfl, rfl⟩ := H
  obtain ⟨ASz5_0, cSz5_0, HGz5, hgz5, HSz5_0⟩ := HI0.out
  have hcz5_0 := cellS92_0 HGz5
  have hcz5_1 := cellS92_1 HGz5
  have hcz5_2 := cellS92_2 HGz5
  have hfz5_1 := blk_frozen HGz5 1
  have hfz5_2 := blk_frozen HGz5 2
  clear HGz5 hgz5
  go_enter Tryd.func71, Tryd.ntmps71
  go_wp2
  repeat (go_quiet (fail); try go_wp2)
  go_ret
  exact ⟨by first | rfl | (simp [errW_none, errW_some] <;> rfl) | (simp [*, errW_none, errW_some] <;> rfl), by exact iS, by exact bI, by exact kS⟩

end Go.Proofs.YtpmgfmalpijjbaaDoor.PFnPaths
