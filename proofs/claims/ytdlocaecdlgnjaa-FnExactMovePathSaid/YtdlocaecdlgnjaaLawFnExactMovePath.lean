/- The row of FnExactMovePath, over its printed contract and the plain law: for every input the call answers true. No condition. Written by wip/rowgen.py. -/
import Derived.Test.YtdlocaecdlgnjaaRows
import Derived.Test.YtdlocaecdlgnjaaQFnExactMovePathx8
import Derived.Test.YtdlocaecdlgnjaaPureFnExactMovePath
import Derived.Test.YtdlocaecdlgnjaaAgg
import Derived.WalkKit
import Derived.ProofKit
import Derived.OpenShut
import Derived.ShutString
import Derived.ChangeOld
import Derived.Below
import Derived.SizedLaws
import Derived.Carry
namespace Go.Proofs.Ytdlocaecdlgnjaa.fnExactMovePath
open Go.ChangeShapes Go.WideShapes Go.ChangeAt Go.RowKit
open Go.ChangeMaps (open_string shut_string)
set_option linter.unusedVariables false
set_option linter.unusedSimpArgs false
theorem own : ownKnob Try.prog.godebug = none := by kernel_rfl
theorem laidOut : laidOutB Try.prog = true := by kernel_rfl
open Go.Proofs.YtdlocaecdlgnjaaW.PrintWords in
theorem reads23 {W : World} {A : Option Addr} {len cap : Nat} {zs : List (Int × Int)} (h : Agg.IsPairs W A len cap zs) :
    Kd.C PFnExactMovePath.k23 W A (zs.map fun p => (⟨p.1, p.2⟩ : PFnExactMovePath.S23)).length (zs.map fun p => (⟨p.1, p.2⟩ : PFnExactMovePath.S23)) := by
  obtain ⟨h1, h2, h3, h4, h5⟩ := h
  refine ⟨rfl, by simp only [List.length_map]; omega, fun hn => ?_⟩
  simp only [List.length_map] at hn
  obtain ⟨a, e, hc⟩ := h5 (by omega)
  refine ⟨a, e, fun j p hp => ?_⟩
  simp only [List.getElem?_map, Option.map_eq_some_iff] at hp
  obtain ⟨q, hq, rfl⟩ := hp
  obtain ⟨c0, c1⟩ := hc j q hq
  refine ⟨_, rfl, PFnExactMovePath.k23_mk W _, fun i u hu => ?_⟩
  match i, hu with
  | 0, hu => simp only [List.getElem?_cons_zero, Option.some.injEq] at hu; subst hu; exact c0
  | 1, hu => simp only [List.getElem?_cons_succ, List.getElem?_cons_zero, Option.some.injEq] at hu; subst hu; exact c1
open Go.Proofs.YtdlocaecdlgnjaaW.PrintWords in
theorem readsInts {W : World} {A : Option Addr} {len cap : Nat} {zs : List Int} (h : Agg.IsNums W A len cap zs) : Kd.C (Kd.int .i64) W A zs.length zs := by
  obtain ⟨rfl, h2, h3, h4, h5⟩ := h
  have r : ReadsInt W .i64 A zs.length zs := ⟨rfl, h3, h5⟩
  exact Kd.C_of_reads (d := (0 : Int)) (h1 := fun _ => rfl) r
set_option maxRecDepth 100000 in
theorem lifted (os : Os) (started : os.Started) (H : Type) (enc : TypeId × Value → H) :
    ReturnsInHanded {} Try.checked os 13 .any (Rows.fnExactMovePathSpec.pre6 enc Try.prog Try.f13 Rows.fnExactMovePathRow.domain false) (Rows.fnExactMovePathSpec.post enc Try.prog Try.f13 false true false false) := by
  refine returnsInHanded_of_change_sized (C := Try.checked) own started (by kernel_rfl) Try.func13
    (ChangeSpec.witness6 (enc := enc) (C := Try.checked) false ⟨#[], #[.agg #[.int .i64 0, .int .i64 0, .int .i64 0, .int .i64 0, .int .i64 0, .int .i64 0], .agg #[.slice none 0 0, .slice none 0 0]], []⟩ 8 (by kernel_rfl) (by kernel_rfl) (by kernel_rfl) (by kernel_rfl)) ?_
  intro W base args ds gs before hval0 hW hcnd hsz0 _
  have hsz : (DataW.weightsEach Try.prog (Try.f13.params.toList ++ Rows.fnExactMovePathSpec.plain.varTypes Try.prog) (ds ++ gs)).all (· ≤ reachBytes) = true := hsz0
  have hval : ∀ (j : Nat) t v, Try.f13.params[j]? = some t → args[j]? = some v → Value.okWide Try.prog W .any base t v := hval0
  have hW' := hW
  obtain ⟨p, q, hA0, hV, rfl, hfz, hnd⟩ := hW
  have hA : DataW.TrodAll enc Try.prog W 0 (fun _ => true) true Try.f13.params.toList args.toList ds p := hA0
  rw [Try.params13] at hA hval hsz
  obtain ⟨v0, vs0, d0, ds0, p0, q0, hargs, rfl, rfl, h0, r0⟩ := trodAll_cons hA
  obtain ⟨v1, vs1, d1, ds1, p1, q1, rfl, rfl, rfl, h1, r1⟩ := trodAll_cons r0
  obtain ⟨rfl, rfl, rfl⟩ := trodAll_nil r1
  obtain rfl : args = #[v0, v1] := by cases args; simp_all
  obtain ⟨rfl, rfl⟩ := trodVars_none hV
  have k0 := h0
  obtain ⟨n0, l0, e0, rfl, rfl, w0⟩ := Agg.open_ints (T := 3) Try.underlying32 (by kernel_rfl) (by kernel_rfl) (by decide) Try.underlying3 (hval 0 32 v0 rfl rfl) h0
  obtain ⟨a0_0, a0_1, a0_2, a0_3, a0_4, a0_5, rfl⟩ := Agg.six_of l0
  replace e0 : v0 = .agg #[.int .i64 a0_0, .int .i64 a0_1, .int .i64 a0_2, .int .i64 a0_3, .int .i64 a0_4, .int .i64 a0_5] := e0
  subst e0
  have k1 := h1
  have lt1 : ∀ x ∈ p1, x.block < W.heap.size := by obtain ⟨m, hm⟩ := k1; exact DataW.trod_lt m _ _ _ hm
  obtain ⟨u1, u1', y1, y1', n1, e1, _, _, t1, t1'⟩ := Joins.open_agg2 Try.underlying64 (by kernel_rfl) (by kernel_rfl) (hval 1 64 v1 rfl rfl) h1
  subst e1
  obtain ⟨A1_0, len1_0, c1_0, z1_0, e1_0, x1_0⟩ := Agg.open_nums Try.underlying48 Try.underlying3 (by kernel_rfl) t1
  subst e1_0
  obtain ⟨A1_1, len1_1, c1_1, z1_1, e1_1, x1_1⟩ := Agg.open_pairs Try.underlying37 Try.underlying23 (by kernel_rfl) (by kernel_rfl) rfl rfl Try.underlying3 t1'
  subst e1_1
  have r1_0' := readsInts x1_0
  obtain ⟨rfl, cc1_0, cb1_0, cw1_0, _⟩ := x1_0
  have r1_1' := reads23 x1_1
  obtain ⟨rfl, cc1_1, cb1_1, cw1_1, _⟩ := x1_1
  obtain ⟨L1_1, hL1_1⟩ : ∃ L : List PFnExactMovePath.S23, L = z1_1.map fun p => (⟨p.1, p.2⟩ : PFnExactMovePath.S23) := ⟨_, rfl⟩
  rw [← hL1_1] at r1_1'
  have hl1_1 : L1_1.length = z1_1.length := by rw [hL1_1, List.length_map]
  rw [← hl1_1] at cc1_1 cb1_1
  clear hA0 hval0 hsz0 hsz
  rw [← hl1_1] at hW' k1 ⊢
  obtain ⟨k, h⟩ := Pure.FnExactMovePath a0_0 a0_1 a0_2 a0_3 a0_4 a0_5 z1_0 L1_1 (w0 a0_0 (by simp)) (w0 a0_1 (by simp)) (w0 a0_2 (by simp)) (w0 a0_3 (by simp)) (w0 a0_4 (by simp)) (w0 a0_5 (by simp)) cb1_0 cb1_1
  refine (PFnExactMovePath.laws_FnExactMovePath.calls k a0_0 a0_1 a0_2 a0_3 a0_4 a0_5 A1_0 c1_0 z1_0 A1_1 c1_1 L1_1 true rfl W r1_0' cc1_0 r1_1' cc1_1 h).mono fun e W' ⟨he, hb⟩ => ?_
  have bel : Below W.heap.size W W' := hb
  subst he
  exact ⟨_, rfl, _, _, _, [], _, [], hW', trodAll_mk1 (shut_bool Try.underlying4 _), (trodAll_cons_mk (Below.trod laidOut (by kernel_rfl) (of_decide_eq_true (by kernel_rfl)) k0 bel (fun x hx => absurd hx (List.not_mem_nil))) (trodAll_cons_mk (Below.trod laidOut (by kernel_rfl) (of_decide_eq_true (by kernel_rfl)) k1 bel lt1) trodAll_mk0)), rfl, bel.frame _, fun h => by cases h⟩
theorem over : Rows.fnExactMovePathRow.holds Try.pinned (OpenSpec.ofChange Rows.fnExactMovePathSpec) :=
  OpenClaim.holds_of_wide 13 Try.f13 rfl rfl rfl rfl rfl rfl rfl ⟨rfl, rfl, rfl, rfl, rfl⟩ rfl rfl rfl rfl rfl (by kernel_rfl) Try.func13 (by kernel_rfl)
    (of_decide_eq_true (by kernel_rfl)) (by unfold Func.isWrapper; first | (rw [if_pos (by decide +kernel)]; kernel_rfl) | (rw [if_neg (by decide +kernel)]; exact ⟨rfl, rfl⟩))
    (fun os started H enc _ => lifted os started H enc)
theorem proved : Rows.FnExactMovePathSaid := over
#print axioms proved
end Go.Proofs.Ytdlocaecdlgnjaa.fnExactMovePath
namespace Go.Proofs.Ytdlocaecdlgnjaa
/-- The row, under a short name, for the claim. -/
theorem fnExactMovePath_holds : Rows.FnExactMovePathSaid := fnExactMovePath.proved
end Go.Proofs.Ytdlocaecdlgnjaa
