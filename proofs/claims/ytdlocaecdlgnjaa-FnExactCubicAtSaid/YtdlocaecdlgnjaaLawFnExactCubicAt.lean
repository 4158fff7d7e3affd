/- The row of FnExactCubicAt, over its printed contract and the plain law: for every input the call answers true. No condition. Written by wip/rowgen.py. -/
import Derived.Test.YtdlocaecdlgnjaaRows
import Derived.Test.YtdlocaecdlgnjaaQFnExactCubicAtx3
import Derived.Test.YtdlocaecdlgnjaaPureFnExactCubicAt
import Derived.Test.YtdlocaecdlgnjaaAgg
import Derived.WalkKit
import Derived.ProofKit
import Derived.OpenShut
import Derived.ShutString
import Derived.ChangeOld
import Derived.Below
import Derived.SizedLaws
import Derived.Carry
namespace Go.Proofs.Ytdlocaecdlgnjaa.fnExactCubicAt
open Go.ChangeShapes Go.WideShapes Go.ChangeAt Go.RowKit
open Go.ChangeMaps (open_string shut_string)
set_option linter.unusedVariables false
set_option linter.unusedSimpArgs false
theorem own : ownKnob Try.prog.godebug = none := by kernel_rfl
theorem laidOut : laidOutB Try.prog = true := by kernel_rfl
set_option maxRecDepth 100000 in
theorem lifted (os : Os) (started : os.Started) (H : Type) (enc : TypeId × Value → H) :
    ReturnsInHanded {} Try.checked os 4 .any (Rows.fnExactCubicAtSpec.pre6 enc Try.prog Try.f4 Rows.fnExactCubicAtRow.domain false) (Rows.fnExactCubicAtSpec.post enc Try.prog Try.f4 false true false false) := by
  refine returnsInHanded_of_change_sized (C := Try.checked) own started (by kernel_rfl) Try.func4
    (ChangeSpec.witness6 (enc := enc) (C := Try.checked) false ⟨#[], #[.agg #[.int .i64 0, .int .i64 0], .agg #[.int .i64 0, .int .i64 0], .agg #[.int .i64 0, .int .i64 0], .agg #[.int .i64 0, .int .i64 0], .int .i64 0], []⟩ 8 (by kernel_rfl) (by kernel_rfl) (by kernel_rfl) (by kernel_rfl)) ?_
  intro W base args ds gs before hval0 hW hcnd hsz0 _
  have hsz : (DataW.weightsEach Try.prog (Try.f4.params.toList ++ Rows.fnExactCubicAtSpec.plain.varTypes Try.prog) (ds ++ gs)).all (· ≤ reachBytes) = true := hsz0
  have hval : ∀ (j : Nat) t v, Try.f4.params[j]? = some t → args[j]? = some v → Value.okWide Try.prog W .any base t v := hval0
  have hW' := hW
  obtain ⟨p, q, hA0, hV, rfl, hfz, hnd⟩ := hW
  have hA : DataW.TrodAll enc Try.prog W 0 (fun _ => true) true Try.f4.params.toList args.toList ds p := hA0
  rw [Try.params4] at hA hval hsz
  obtain ⟨v0, vs0, d0, ds0, p0, q0, hargs, rfl, rfl, h0, r0⟩ := trodAll_cons hA
  obtain ⟨v1, vs1, d1, ds1, p1, q1, rfl, rfl, rfl, h1, r1⟩ := trodAll_cons r0
  obtain ⟨v2, vs2, d2, ds2, p2, q2, rfl, rfl, rfl, h2, r2⟩ := trodAll_cons r1
  obtain ⟨v3, vs3, d3, ds3, p3, q3, rfl, rfl, rfl, h3, r3⟩ := trodAll_cons r2
  obtain ⟨v4, vs4, d4, ds4, p4, q4, rfl, rfl, rfl, h4, r4⟩ := trodAll_cons r3
  obtain ⟨rfl, rfl, rfl⟩ := trodAll_nil r4
  obtain rfl : args = #[v0, v1, v2, v3, v4] := by cases args; simp_all
  obtain ⟨rfl, rfl⟩ := trodVars_none hV
  have k0 := h0
  obtain ⟨n0, l0, e0, rfl, rfl, w0⟩ := Agg.open_ints (T := 3) Try.underlying23 (by kernel_rfl) (by kernel_rfl) (by decide) Try.underlying3 (hval 0 23 v0 rfl rfl) h0
  obtain ⟨a0_0, a0_1, rfl⟩ := Agg.two_of l0
  replace e0 : v0 = .agg #[.int .i64 a0_0, .int .i64 a0_1] := e0
  subst e0
  have k1 := h1
  obtain ⟨n1, l1, e1, rfl, rfl, w1⟩ := Agg.open_ints (T := 3) Try.underlying23 (by kernel_rfl) (by kernel_rfl) (by decide) Try.underlying3 (hval 1 23 v1 rfl rfl) h1
  obtain ⟨a1_0, a1_1, rfl⟩ := Agg.two_of l1
  replace e1 : v1 = .agg #[.int .i64 a1_0, .int .i64 a1_1] := e1
  subst e1
  have k2 := h2
  obtain ⟨n2, l2, e2, rfl, rfl, w2⟩ := Agg.open_ints (T := 3) Try.underlying23 (by kernel_rfl) (by kernel_rfl) (by decide) Try.underlying3 (hval 2 23 v2 rfl rfl) h2
  obtain ⟨a2_0, a2_1, rfl⟩ := Agg.two_of l2
  replace e2 : v2 = .agg #[.int .i64 a2_0, .int .i64 a2_1] := e2
  subst e2
  have k3 := h3
  obtain ⟨n3, l3, e3, rfl, rfl, w3⟩ := Agg.open_ints (T := 3) Try.underlying23 (by kernel_rfl) (by kernel_rfl) (by decide) Try.underlying3 (hval 3 23 v3 rfl rfl) h3
  obtain ⟨a3_0, a3_1, rfl⟩ := Agg.two_of l3
  replace e3 : v3 = .agg #[.int .i64 a3_0, .int .i64 a3_1] := e3
  subst e3
  obtain ⟨a4, rfl, rfl, rfl, w4⟩ := open_int Try.underlying3 (hval 4 3 v4 rfl rfl) h4
  clear hA0 hval0 hsz0 hsz
  obtain ⟨k, h⟩ := Pure.FnExactCubicAt a0_0 a0_1 a1_0 a1_1 a2_0 a2_1 a3_0 a3_1 a4 (w0 a0_0 (by simp)) (w0 a0_1 (by simp)) (w1 a1_0 (by simp)) (w1 a1_1 (by simp)) (w2 a2_0 (by simp)) (w2 a2_1 (by simp)) (w3 a3_0 (by simp)) (w3 a3_1 (by simp)) w4
  refine (PFnExactCubicAt.laws_FnExactCubicAt.calls k a0_0 a0_1 a1_0 a1_1 a2_0 a2_1 a3_0 a3_1 a4 true rfl W h).mono fun e W' ⟨he, hb⟩ => ?_
  have bel : Below W.heap.size W W' := hb
  subst he
  exact ⟨_, rfl, _, _, _, [], _, [], hW', trodAll_mk1 (shut_bool Try.underlying4 _), (trodAll_cons_mk (Below.trod laidOut (by kernel_rfl) (of_decide_eq_true (by kernel_rfl)) k0 bel (fun x hx => absurd hx (List.not_mem_nil))) (trodAll_cons_mk (Below.trod laidOut (by kernel_rfl) (of_decide_eq_true (by kernel_rfl)) k1 bel (fun x hx => absurd hx (List.not_mem_nil))) (trodAll_cons_mk (Below.trod laidOut (by kernel_rfl) (of_decide_eq_true (by kernel_rfl)) k2 bel (fun x hx => absurd hx (List.not_mem_nil))) (trodAll_cons_mk (Below.trod laidOut (by kernel_rfl) (of_decide_eq_true (by kernel_rfl)) k3 bel (fun x hx => absurd hx (List.not_mem_nil))) (trodAll_cons_mk (shut_int Try.underlying3 w4) trodAll_mk0))))), rfl, bel.frame _, fun h => by cases h⟩
theorem over : Rows.fnExactCubicAtRow.holds Try.pinned (OpenSpec.ofChange Rows.fnExactCubicAtSpec) :=
  OpenClaim.holds_of_wide 4 Try.f4 rfl rfl rfl rfl rfl rfl rfl ⟨rfl, rfl, rfl, rfl, rfl⟩ rfl rfl rfl rfl rfl (by kernel_rfl) Try.func4 (by kernel_rfl)
    (of_decide_eq_true (by kernel_rfl)) (by unfold Func.isWrapper; first | (rw [if_pos (by decide +kernel)]; kernel_rfl) | (rw [if_neg (by decide +kernel)]; exact ⟨rfl, rfl⟩))
    (fun os started H enc _ => lifted os started H enc)
theorem proved : Rows.FnExactCubicAtSaid := over
#print axioms proved
end Go.Proofs.Ytdlocaecdlgnjaa.fnExactCubicAt
namespace Go.Proofs.Ytdlocaecdlgnjaa
/-- The row, under a short name, for the claim. -/
theorem fnExactCubicAt_holds : Rows.FnExactCubicAtSaid := fnExactCubicAt.proved
end Go.Proofs.Ytdlocaecdlgnjaa
