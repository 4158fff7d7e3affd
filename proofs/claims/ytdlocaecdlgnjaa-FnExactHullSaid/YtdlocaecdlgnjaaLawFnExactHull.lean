/- The row of FnExactHull, over its printed contract and the plain law: for every input the call answers true. No condition. Written by wip/rowgen.py. -/
import Derived.Test.YtdlocaecdlgnjaaRows
import Derived.Test.YtdlocaecdlgnjaaPFnExactHullx7
import Derived.Test.YtdlocaecdlgnjaaPureFnExactHull
import Derived.Test.YtdlocaecdlgnjaaAgg
import Derived.WalkKit
import Derived.ProofKit
import Derived.OpenShut
import Derived.ShutString
import Derived.ChangeOld
import Derived.Below
import Derived.SizedLaws
import Derived.Carry
namespace Go.Proofs.Ytdlocaecdlgnjaa.fnExactHull
open Go.ChangeShapes Go.WideShapes Go.ChangeAt Go.RowKit
open Go.ChangeMaps (open_string shut_string)
set_option linter.unusedVariables false
set_option linter.unusedSimpArgs false
theorem own : ownKnob Try.prog.godebug = none := by kernel_rfl
theorem laidOut : laidOutB Try.prog = true := by kernel_rfl
open Go.Proofs.YtdlocaecdlgnjaaW.PrintWords in
theorem reads23 {W : World} {A : Option Addr} {len cap : Nat} {zs : List (Int × Int)} (h : Agg.IsPairs W A len cap zs) :
    Kd.C PFnExactHull.k23 W A (zs.map fun p => (⟨p.1, p.2⟩ : PFnExactHull.S23)).length (zs.map fun p => (⟨p.1, p.2⟩ : PFnExactHull.S23)) := by
  obtain ⟨h1, h2, h3, h4, h5⟩ := h
  refine ⟨rfl, by simp only [List.length_map]; omega, fun hn => ?_⟩
  simp only [List.length_map] at hn
  obtain ⟨a, e, hc⟩ := h5 (by omega)
  refine ⟨a, e, fun j p hp => ?_⟩
  simp only [List.getElem?_map, Option.map_eq_some_iff] at hp
  obtain ⟨q, hq, rfl⟩ := hp
  obtain ⟨c0, c1⟩ := hc j q hq
  refine ⟨_, rfl, PFnExactHull.k23_mk W _, fun i u hu => ?_⟩
  match i, hu with
  | 0, hu => simp only [List.getElem?_cons_zero, Option.some.injEq] at hu; subst hu; exact c0
  | 1, hu => simp only [List.getElem?_cons_succ, List.getElem?_cons_zero, Option.some.injEq] at hu; subst hu; exact c1
open Go.Proofs.YtdlocaecdlgnjaaW.PrintWords in
theorem readsInts {W : World} {A : Option Addr} {len cap : Nat} {zs : List Int} (h : Agg.IsNums W A len cap zs) : Kd.C (Kd.int .i64) W A zs.length zs := by
  obtain ⟨rfl, h2, h3, h4, h5⟩ := h
  have r : ReadsInt W .i64 A zs.length zs := ⟨rfl, h3, h5⟩
  exact Kd.C_of_reads (d := (0 : Int)) (h1 := fun _ => rfl) r
set_option maxRecDepth 100000 in
theorem lifted (os : Os) (started : os.Started) (H : Type) (enc : TypeId × Value → H) :
    ReturnsInHanded {} Try.checked os 11 .any (Rows.fnExactHullSpec.pre6 enc Try.prog Try.f11 Rows.fnExactHullRow.domain false) (Rows.fnExactHullSpec.post enc Try.prog Try.f11 false true false false) := by
  refine returnsInHanded_of_change_sized (C := Try.checked) own started (by kernel_rfl) Try.func11
    (ChangeSpec.witness6 (enc := enc) (C := Try.checked) false ⟨#[], #[.agg #[.slice none 0 0, .slice none 0 0]], []⟩ 8 (by kernel_rfl) (by kernel_rfl) (by kernel_rfl) (by kernel_rfl)) ?_
  intro W base args ds gs before hval0 hW hcnd hsz0 _
  have hsz : (DataW.weightsEach Try.prog (Try.f11.params.toList ++ Rows.fnExactHullSpec.plain.varTypes Try.prog) (ds ++ gs)).all (· ≤ reachBytes) = true := hsz0
  have hval : ∀ (j : Nat) t v, Try.f11.params[j]? = some t → args[j]? = some v → Value.okWide Try.prog W .any base t v := hval0
  have hW' := hW
  obtain ⟨p, q, hA0, hV, rfl, hfz, hnd⟩ := hW
  have hA : DataW.TrodAll enc Try.prog W 0 (fun _ => true) true Try.f11.params.toList args.toList ds p := hA0
  rw [Try.params11] at hA hval hsz
  obtain ⟨v0, vs0, d0, ds0, p0, q0, hargs, rfl, rfl, h0, r0⟩ := trodAll_cons hA
  obtain ⟨rfl, rfl, rfl⟩ := trodAll_nil r0
  obtain rfl : args = #[v0] := by cases args; simp_all
  obtain ⟨rfl, rfl⟩ := trodVars_none hV
  have k0 := h0
  have lt0 : ∀ x ∈ p0, x.block < W.heap.size := by obtain ⟨m, hm⟩ := k0; exact DataW.trod_lt m _ _ _ hm
  obtain ⟨u0, u0', y0, y0', n0, e0, _, _, t0, t0'⟩ := Joins.open_agg2 Try.underlying64 (by kernel_rfl) (by kernel_rfl) (hval 0 64 v0 rfl rfl) h0
  subst e0
  obtain ⟨A0_0, len0_0, c0_0, z0_0, e0_0, x0_0⟩ := Agg.open_nums Try.underlying48 Try.underlying3 (by kernel_rfl) t0
  subst e0_0
  obtain ⟨A0_1, len0_1, c0_1, z0_1, e0_1, x0_1⟩ := Agg.open_pairs Try.underlying37 Try.underlying23 (by kernel_rfl) (by kernel_rfl) rfl rfl Try.underlying3 t0'
  subst e0_1
  have r0_0' := readsInts x0_0
  obtain ⟨rfl, cc0_0, cb0_0, cw0_0, _⟩ := x0_0
  have r0_1' := reads23 x0_1
  obtain ⟨rfl, cc0_1, cb0_1, cw0_1, _⟩ := x0_1
  obtain ⟨L0_1, hL0_1⟩ : ∃ L : List PFnExactHull.S23, L = z0_1.map fun p => (⟨p.1, p.2⟩ : PFnExactHull.S23) := ⟨_, rfl⟩
  rw [← hL0_1] at r0_1'
  have hl0_1 : L0_1.length = z0_1.length := by rw [hL0_1, List.length_map]
  rw [← hl0_1] at cc0_1 cb0_1
  clear hA0 hval0 hsz0 hsz
  rw [← hl0_1] at hW' k0 ⊢
  obtain ⟨k, h⟩ := Pure.FnExactHull z0_0 L0_1 cb0_0 cb0_1
  refine (PFnExactHull.laws_FnExactHull.calls k A0_0 c0_0 z0_0 A0_1 c0_1 L0_1 true W r0_0' cc0_0 r0_1' cc0_1 h).mono fun e W' ⟨he, hb⟩ => ?_
  have bel : Below W.heap.size W W' := hb
  subst he
  exact ⟨_, rfl, _, _, _, [], _, [], hW', trodAll_mk1 (shut_bool Try.underlying4 _), (trodAll_cons_mk (Below.trod laidOut (by kernel_rfl) (of_decide_eq_true (by kernel_rfl)) k0 bel lt0) trodAll_mk0), rfl, bel.frame _, fun h => by cases h⟩
theorem over : Rows.fnExactHullRow.holds Try.pinned (OpenSpec.ofChange Rows.fnExactHullSpec) :=
  OpenClaim.holds_of_wide 11 Try.f11 rfl rfl rfl rfl rfl rfl rfl ⟨rfl, rfl, rfl, rfl, rfl⟩ rfl rfl rfl rfl rfl (by kernel_rfl) Try.func11 (by kernel_rfl)
    (of_decide_eq_true (by kernel_rfl)) (by unfold Func.isWrapper; first | (rw [if_pos (by decide +kernel)]; kernel_rfl) | (rw [if_neg (by decide +kernel)]; exact ⟨rfl, rfl⟩))
    (fun os started H enc _ => lifted os started H enc)
theorem proved : Rows.FnExactHullSaid := over
#print axioms proved
end Go.Proofs.Ytdlocaecdlgnjaa.fnExactHull
namespace Go.Proofs.Ytdlocaecdlgnjaa
/-- The row, under a short name, for the claim. -/
theorem fnExactHull_holds : Rows.FnExactHullSaid := fnExactHull.proved
end Go.Proofs.Ytdlocaecdlgnjaa
