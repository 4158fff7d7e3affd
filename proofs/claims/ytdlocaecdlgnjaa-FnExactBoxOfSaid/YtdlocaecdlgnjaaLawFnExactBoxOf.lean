/- The row of FnExactBoxOf, over its printed contract and the plain law: for every input the call answers true. No condition. Written by wip/rowgen.py. -/
import Derived.Test.YtdlocaecdlgnjaaRows
import Derived.Test.YtdlocaecdlgnjaaPFnExactBoxOfx3
import Derived.Test.YtdlocaecdlgnjaaPureFnExactBoxOf
import Derived.Test.YtdlocaecdlgnjaaAgg
import Derived.WalkKit
import Derived.ProofKit
import Derived.OpenShut
import Derived.ShutString
import Derived.ChangeOld
import Derived.Below
import Derived.SizedLaws
import Derived.Carry
namespace Go.Proofs.Ytdlocaecdlgnjaa.fnExactBoxOf
open Go.ChangeShapes Go.WideShapes Go.ChangeAt Go.RowKit
open Go.ChangeMaps (open_string shut_string)
set_option linter.unusedVariables false
set_option linter.unusedSimpArgs false
theorem own : ownKnob Try.prog.godebug = none := by kernel_rfl
theorem laidOut : laidOutB Try.prog = true := by kernel_rfl
open Go.Proofs.YtdlocaecdlgnjaaW.PrintWords in
theorem reads23 {W : World} {A : Option Addr} {len cap : Nat} {zs : List (Int × Int)} (h : Agg.IsPairs W A len cap zs) :
    Kd.C PFnExactBoxOf.k23 W A (zs.map fun p => (⟨p.1, p.2⟩ : PFnExactBoxOf.S23)).length (zs.map fun p => (⟨p.1, p.2⟩ : PFnExactBoxOf.S23)) := by
  obtain ⟨h1, h2, h3, h4, h5⟩ := h
  refine ⟨rfl, by simp only [List.length_map]; omega, fun hn => ?_⟩
  simp only [List.length_map] at hn
  obtain ⟨a, e, hc⟩ := h5 (by omega)
  refine ⟨a, e, fun j p hp => ?_⟩
  simp only [List.getElem?_map, Option.map_eq_some_iff] at hp
  obtain ⟨q, hq, rfl⟩ := hp
  obtain ⟨c0, c1⟩ := hc j q hq
  refine ⟨_, rfl, PFnExactBoxOf.k23_mk W _, fun i u hu => ?_⟩
  match i, hu with
  | 0, hu => simp only [List.getElem?_cons_zero, Option.some.injEq] at hu; subst hu; exact c0
  | 1, hu => simp only [List.getElem?_cons_succ, List.getElem?_cons_zero, Option.some.injEq] at hu; subst hu; exact c1
set_option maxRecDepth 100000 in
theorem lifted (os : Os) (started : os.Started) (H : Type) (enc : TypeId × Value → H) :
    ReturnsInHanded {} Try.checked os 6 .any (Rows.fnExactBoxOfSpec.pre6 enc Try.prog Try.f6 Rows.fnExactBoxOfRow.domain false) (Rows.fnExactBoxOfSpec.post enc Try.prog Try.f6 false true false false) := by
  refine returnsInHanded_of_change_sized (C := Try.checked) own started (by kernel_rfl) Try.func6
    (ChangeSpec.witness6 (enc := enc) (C := Try.checked) false ⟨#[], #[.slice none 0 0], []⟩ 8 (by kernel_rfl) (by kernel_rfl) (by kernel_rfl) (by kernel_rfl)) ?_
  intro W base args ds gs before hval0 hW hcnd hsz0 _
  have hsz : (DataW.weightsEach Try.prog (Try.f6.params.toList ++ Rows.fnExactBoxOfSpec.plain.varTypes Try.prog) (ds ++ gs)).all (· ≤ reachBytes) = true := hsz0
  have hval : ∀ (j : Nat) t v, Try.f6.params[j]? = some t → args[j]? = some v → Value.okWide Try.prog W .any base t v := hval0
  have hW' := hW
  obtain ⟨p, q, hA0, hV, rfl, hfz, hnd⟩ := hW
  have hA : DataW.TrodAll enc Try.prog W 0 (fun _ => true) true Try.f6.params.toList args.toList ds p := hA0
  rw [Try.params6] at hA hval hsz
  obtain ⟨v0, vs0, d0, ds0, p0, q0, hargs, rfl, rfl, h0, r0⟩ := trodAll_cons hA
  obtain ⟨rfl, rfl, rfl⟩ := trodAll_nil r0
  obtain rfl : args = #[v0] := by cases args; simp_all
  obtain ⟨rfl, rfl⟩ := trodVars_none hV
  have k0 := h0
  have lt0 : ∀ x ∈ p0, x.block < W.heap.size := by obtain ⟨m, hm⟩ := k0; exact DataW.trod_lt m _ _ _ hm
  obtain ⟨A0, len0, c0, e0⟩ := okWide_slice Try.underlying37 (hval 0 37 v0 rfl rfl)
  subst e0
  obtain ⟨fuel0, g0⟩ := h0
  obtain ⟨A0', len0', c0', z0, e0, x0⟩ := Agg.open_pairs Try.underlying37 Try.underlying23 (by kernel_rfl) (by kernel_rfl) rfl rfl Try.underlying3 g0
  cases e0
  have r0' := reads23 x0
  obtain ⟨rfl, cc0, cb0, cw0, _⟩ := x0
  obtain ⟨L0, hL0⟩ : ∃ L : List PFnExactBoxOf.S23, L = z0.map fun p => (⟨p.1, p.2⟩ : PFnExactBoxOf.S23) := ⟨_, rfl⟩
  rw [← hL0] at r0'
  have hl0 : L0.length = z0.length := by rw [hL0, List.length_map]
  rw [← hl0] at cc0 cb0
  clear hA0 hval0 hsz0 hsz
  rw [← hl0] at hW' k0 ⊢
  obtain ⟨k, h⟩ := Pure.FnExactBoxOf L0 cb0
  refine (PFnExactBoxOf.laws_FnExactBoxOf.calls k A0 c0 L0 true W r0' cc0 h).mono fun e W' ⟨he, hb⟩ => ?_
  have bel : Below W.heap.size W W' := hb
  subst he
  exact ⟨_, rfl, _, _, _, [], _, [], hW', trodAll_mk1 (shut_bool Try.underlying4 _), (trodAll_cons_mk (Below.trod laidOut (by kernel_rfl) (of_decide_eq_true (by kernel_rfl)) k0 bel lt0) trodAll_mk0), rfl, bel.frame _, fun h => by cases h⟩
theorem over : Rows.fnExactBoxOfRow.holds Try.pinned (OpenSpec.ofChange Rows.fnExactBoxOfSpec) :=
  OpenClaim.holds_of_wide 6 Try.f6 rfl rfl rfl rfl rfl rfl rfl ⟨rfl, rfl, rfl, rfl, rfl⟩ rfl rfl rfl rfl rfl (by kernel_rfl) Try.func6 (by kernel_rfl)
    (of_decide_eq_true (by kernel_rfl)) (by unfold Func.isWrapper; first | (rw [if_pos (by decide +kernel)]; kernel_rfl) | (rw [if_neg (by decide +kernel)]; exact ⟨rfl, rfl⟩))
    (fun os started H enc _ => lifted os started H enc)
theorem proved : Rows.FnExactBoxOfSaid := over
#print axioms proved
end Go.Proofs.Ytdlocaecdlgnjaa.fnExactBoxOf
namespace Go.Proofs.Ytdlocaecdlgnjaa
/-- The row, under a short name, for the claim. -/
theorem fnExactBoxOf_holds : Rows.FnExactBoxOfSaid := fnExactBoxOf.proved
end Go.Proofs.Ytdlocaecdlgnjaa
