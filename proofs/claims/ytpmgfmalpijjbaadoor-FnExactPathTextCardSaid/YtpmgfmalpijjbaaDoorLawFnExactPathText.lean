/- The row of FnExactPathText, over its printed contract and the plain law: for every input the call answers true. No condition. Written by wip/rowgen.py. -/
import Derived.Test.YtpmgfmalpijjbaaDoorRows
import Derived.Test.YtpmgfmalpijjbaaDoorQFnExactPathTextx7
import Derived.Test.YtpmgfmalpijjbaaDoorPureFnExactPathText
import Derived.Test.YtpmgfmalpijjbaaDoorAgg
import Derived.WalkKit
import Derived.ProofKit
import Derived.OpenShut
import Derived.ShutString
import Derived.ChangeOld
import Derived.Below
import Derived.SizedLaws
import Derived.LaidMore
import Derived.Stop.Joined
import Derived.Stop.LaidErr
import Derived.SevenTiedAt
import Derived.Lay
import Derived.Shelf.Vars
import Derived.Test.YtpmgfmalpijjbaaDoorTab
import Derived.Test.YtpmgfmalpijjbaaDoorTie
import Derived.Test.YtpmgfmalpijjbaaDoorCards
import Derived.Carry
namespace Go.Proofs.YtpmgfmalpijjbaaDoor.fnExactPathText
open Go.ChangeShapes Go.WideShapes Go.ChangeAt Go.RowKit
open Go.ChangeMaps (open_string shut_string)
set_option linter.unusedVariables false
set_option linter.unusedSimpArgs false
theorem own : ownKnob Tryd.prog.godebug = none := by kernel_rfl
theorem laidOut : laidOutB Tryd.prog = true := by kernel_rfl
open Go.Proofs.YtpmgfmalpijjbaaDoorW.PrintWords in
theorem reads78 {W : World} {A : Option Addr} {len cap : Nat} {zs : List (Int × Int)} (h : Agg.IsPairs W A len cap zs) :
    Kd.C PFnExactPathText.k78 W A (zs.map fun p => (⟨p.1, p.2⟩ : PFnExactPathText.S78)).length (zs.map fun p => (⟨p.1, p.2⟩ : PFnExactPathText.S78)) := by
  obtain ⟨h1, h2, h3, h4, h5⟩ := h
  refine ⟨rfl, by simp only [List.length_map]; omega, fun hn => ?_⟩
  simp only [List.length_map] at hn
  obtain ⟨a, e, hc⟩ := h5 (by omega)
  refine ⟨a, e, fun j p hp => ?_⟩
  simp only [List.getElem?_map, Option.map_eq_some_iff] at hp
  obtain ⟨q, hq, rfl⟩ := hp
  obtain ⟨c0, c1⟩ := hc j q hq
  refine ⟨_, rfl, PFnExactPathText.k78_mk W _, fun i u hu => ?_⟩
  match i, hu with
  | 0, hu => simp only [List.getElem?_cons_zero, Option.some.injEq] at hu; subst hu; exact c0
  | 1, hu => simp only [List.getElem?_cons_succ, List.getElem?_cons_zero, Option.some.injEq] at hu; subst hu; exact c1
open Go.Proofs.YtpmgfmalpijjbaaDoorW.PrintWords in
theorem readsInts {W : World} {A : Option Addr} {len cap : Nat} {zs : List Int} (h : Agg.IsNums W A len cap zs) : Kd.C (Kd.int .i64) W A zs.length zs := by
  obtain ⟨rfl, h2, h3, h4, h5⟩ := h
  have r : ReadsInt W .i64 A zs.length zs := ⟨rfl, h3, h5⟩
  exact Kd.C_of_reads (d := (0 : Int)) (h1 := fun _ => rfl) r
theorem of_shape {W : World} (h : W.ShapedOpen Tryd.prog) : ∃ m, W.cell? ⟨0, 0, none⟩ = some (.int .i64 m) :=
  cell_of_shapedOpen_int (g := 0) (t := 3) (zero := #[.int .i64 0]) h (of_decide_eq_true (by kernel_rfl)) (by kernel_rfl) rfl (by kernel_rfl) (by kernel_rfl) Tryd.underlying3
theorem tail {P : Program} {x : String × DataW Unit} {r : List (String × DataW Unit)} {w : World} (h : laidMet P (x :: r) w) : laidMet P r w := laidMet.tail h
/-- The table out of the row's condition, MaxLen out of the world's shape. -/
theorem of_laid {W : World} (h0 : laidMetH Tryd.prog Rows.fnExactPathTextRow.laid W) (hs : W.ShapedOpen Tryd.prog) : Tab.Is W := by
  rw [MakeChecks.laidMetH_plain _ _ _ (by kernel_rfl)] at h0
  have h1 := tail h0
  have h2 := tail h1
  exact ⟨Lib.tabIs_of_head (g := 3) (t := 129) (n := 20) (e := 115) (by kernel_rfl) (by kernel_rfl) (by kernel_rfl) (by kernel_rfl) (by kernel_rfl) (by kernel_rfl) (show laidMet Tryd.prog (("internal/strconv.uint64pow10", Lib.tabData .u64 Lib.pow10Tab) :: _) W from h2), of_shape hs⟩
set_option maxRecDepth 100000 in
theorem lifted (os : Os) (started : os.Started) (H : Type) (enc : TypeId × Value → H) :
    ReturnsInHanded {} Tryd.checked os 4 .any (fun w args => (Rows.fnExactPathTextSpec.pre enc Tryd.prog Tryd.f4 [] false w args ∧ laidMetH Tryd.prog Rows.fnExactPathTextRow.laid w) ∧ sizedMet enc Tryd.prog Tryd.f4 (OpenSpec.ofChange Rows.fnExactPathTextSpec) false w args) (Rows.fnExactPathTextSpec.post enc Tryd.prog Tryd.f4 false true false false) := by
  refine Tab.and_shaped (C := Tryd.checked) (X := fun w _ => laidMetH Tryd.prog Rows.fnExactPathTextRow.laid w) (fun _ _ _ hh h => h.of_heap hh) own started (by kernel_rfl) Tryd.func4
    (ChangeSpec.witness_shaped (enc := enc) (C := Tryd.checked) (os := os) (X := fun w _ => laidMetH Tryd.prog Rows.fnExactPathTextRow.laid w) false (World.laidAll Tryd.prog os Rows.fnExactPathTextRow.laid) #[.agg #[.slice none 0 0, .slice none 0 0]] 8 (World.laidAll_os _ _ _) (World.shaped_of_ZipB (by kernel_rfl) (by kernel_rfl)) (by kernel_rfl) (by kernel_rfl) (by kernel_rfl) (by rw [MakeChecks.laidMetH_plain _ _ _ (by kernel_rfl)]; exact laidMet_laidAll _ (by kernel_rfl) (by kernel_rfl))) ?_
  intro W base args ds gs before hval0 hW hcnd hsz0 hL hsh _
  have hT := of_laid hL hsh
  have hsz : (DataW.weightsEach Tryd.prog (Tryd.f4.params.toList ++ Rows.fnExactPathTextSpec.plain.varTypes Tryd.prog) (ds ++ gs)).all (· ≤ reachBytes) = true := hsz0
  have hval : ∀ (j : Nat) t v, Tryd.f4.params[j]? = some t → args[j]? = some v → Value.okWide Tryd.prog W .any base t v := hval0
  have hW' := hW
  obtain ⟨p, q, hA0, hV, rfl, hfz, hnd⟩ := hW
  have hA : DataW.TrodAll enc Tryd.prog W 0 (fun _ => true) true Tryd.f4.params.toList args.toList ds p := hA0
  rw [Tryd.params4] at hA hval hsz
  obtain ⟨v0, vs0, d0, ds0, p0, q0, hargs, rfl, rfl, h0, r0⟩ := trodAll_cons hA
  obtain ⟨rfl, rfl, rfl⟩ := trodAll_nil r0
  obtain rfl : args = #[v0] := by cases args; simp_all
  obtain ⟨rfl, rfl⟩ := trodVars_none hV
  have k0 := h0
  have lt0 : ∀ x ∈ p0, x.block < W.heap.size := by obtain ⟨m, hm⟩ := k0; exact DataW.trod_lt m _ _ _ hm
  obtain ⟨u0, u0', y0, y0', n0, e0, _, _, t0, t0'⟩ := Joins.open_agg2 Tryd.underlying31 (by kernel_rfl) (by kernel_rfl) (hval 0 31 v0 rfl rfl) h0
  subst e0
  obtain ⟨A0_0, len0_0, c0_0, z0_0, e0_0, x0_0⟩ := Agg.open_nums Tryd.underlying28 Tryd.underlying3 (by kernel_rfl) t0
  subst e0_0
  obtain ⟨A0_1, len0_1, c0_1, z0_1, e0_1, x0_1⟩ := Agg.open_pairs Tryd.underlying29 Tryd.underlying78 (by kernel_rfl) (by kernel_rfl) rfl rfl Tryd.underlying3 t0'
  subst e0_1
  have r0_0' := readsInts x0_0
  obtain ⟨rfl, cc0_0, cb0_0, cw0_0, _⟩ := x0_0
  have r0_1' := reads78 x0_1
  obtain ⟨rfl, cc0_1, cb0_1, cw0_1, _⟩ := x0_1
  obtain ⟨L0_1, hL0_1⟩ : ∃ L : List PFnExactPathText.S78, L = z0_1.map fun p => (⟨p.1, p.2⟩ : PFnExactPathText.S78) := ⟨_, rfl⟩
  rw [← hL0_1] at r0_1'
  have hl0_1 : L0_1.length = z0_1.length := by rw [hL0_1, List.length_map]
  rw [← hl0_1] at cc0_1 cb0_1
  clear hA0 hval0 hsz0 hsz
  rw [← hl0_1] at hW' k0 ⊢
  obtain ⟨k, h⟩ := Pure.FnExactPathText z0_0 L0_1 cb0_0 cb0_1
  refine (PFnExactPathText.laws_FnExactPathText.calls k A0_0 c0_0 z0_0 A0_1 c0_1 L0_1 true rfl W r0_0' cc0_0 r0_1' cc0_1 hT h).mono fun e W' ⟨he, hb⟩ => ?_
  have bel : Below W.heap.size W W' := hb
  subst he
  exact ⟨_, rfl, _, _, _, [], _, [], hW', trodAll_mk1 (shut_bool Tryd.underlying4 _), (trodAll_cons_mk (Below.trod laidOut (by kernel_rfl) (of_decide_eq_true (by kernel_rfl)) k0 bel lt0) trodAll_mk0), rfl, bel.frame _, fun h => by cases h⟩
theorem over : Rows.fnExactPathTextRow.holds Tryd.pinned (OpenSpec.ofChange Rows.fnExactPathTextSpec) :=
  OpenClaim.holds_of_wide 4 Tryd.f4 rfl rfl rfl rfl rfl rfl rfl ⟨rfl, rfl, rfl, rfl, rfl⟩ rfl rfl rfl rfl rfl (by kernel_rfl) Tryd.func4 (by kernel_rfl)
    (of_decide_eq_true (by kernel_rfl)) (by unfold Func.isWrapper; first | (rw [if_pos (by decide +kernel)]; kernel_rfl) | (rw [if_neg (by decide +kernel)]; exact ⟨rfl, rfl⟩))
    (fun os started H enc _ => lifted os started H enc)
/-- THE CARD. -/
theorem card : Rows.FnExactPathTextCardSaid :=
  Claim7.holds_tied_plain_at .later [] [.data, .data, .data] true (true, "ca849366abd94b20841dabf9c390b451b82bf1dc00bc4deed6b58576fc765b5f") false
    over (fun _ h => by cases h) (by kernel_rfl) (fun _ h => by cases h) fnExactPathText_row_tie rfl ⟨rfl, rfl⟩ (by kernel_rfl) rfl
    (fun f fn hf hfn => by
      obtain rfl : f = 4 := Option.some.inj ((show Tryd.prog.funcNamed "loop.example/g00190/laws.FnExactPathText" = some 4 by kernel_rfl).symm.trans hf) |>.symm
      obtain rfl : fn = Tryd.f4 := (Option.some.inj (Tryd.func4.symm.trans hfn)).symm
      exact ⟨by kernel_rfl, fun j t ht => by
        rw [Tryd.params4] at ht
        have hm : t ∈ [31] := by simpa using Array.mem_of_getElem? ht
        have hall : ([31].all fun u => !Tryd.prog.wantsStandIn u) = true := by kernel_rfl
        exact (show Tryd.prog.wantsStandIn t = false by simpa using List.all_eq_true.1 hall t hm)⟩)
    (by kernel_rfl)
#print axioms card
end Go.Proofs.YtpmgfmalpijjbaaDoor.fnExactPathText
namespace Go.Proofs.YtpmgfmalpijjbaaDoor
/-- The row, under a short name, for the claim. -/
theorem fnExactPathText_holds : Rows.FnExactPathTextCardSaid := fnExactPathText.card
end Go.Proofs.YtpmgfmalpijjbaaDoor
