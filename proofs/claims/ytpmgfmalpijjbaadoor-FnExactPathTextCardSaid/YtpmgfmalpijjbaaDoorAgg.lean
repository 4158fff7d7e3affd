/- Structs of whole numbers, handed by value: opened to their numbers, and shut again. No condition beside the type's own shape. -/
import Derived.ChangeSame
import Derived.Lib.SmallJoins
import Derived.Deep.Fields
import Derived.Deep.Slices
import Derived.ChangeSlices
import Derived.RowKit
namespace Go.Proofs.YtpmgfmalpijjbaaDoor.Agg
open Go.Joins Go.ChangeShapes Go.WideShapes Go.RowKit Go.Deep

section
variable {H : Type} {enc : TypeId × Value → H} {P : Program} {w : World} {base : Nat} {spare : Nat → Bool} {held : Bool}

def vals (ns : List Int) : List Value := ns.map fun n => .int .i64 n
def lits (H : Type) (ns : List Int) : List (DataW H) := ns.map fun n => .lit (.int .i64 n)

theorem one_cell {cs : Array Value} {i : Nat} (h : i < cs.size) : (cs.toList.drop i).take 1 = [cs[i]] := by
  rw [List.drop_eq_getElem_cons (by simpa using h)]
  simp

theorem open_ints {r : Reach} {b0 : Nat} {t T : TypeId} {fs : Array Field} {v : Value} {d : DataW H} {p : List MemPlace} (hs : P.underlying t = some (.struct fs)) (hone : oneCellFields P fs = true) (hC : P.cellsOf t = fs.size)
    (hall : fs.toList.all (fun f => f.type == T) = true) (hT : P.underlying T = some (.int .i64)) (hv : Value.okWide P w r b0 t v) (h : DataW.Trod enc P w base spare held t v d p) :
    ∃ ns : List Int, ns.length = fs.size ∧ v = .agg (vals ns).toArray ∧ d = .agg (lits H ns) ∧ p = [] ∧ ∀ n ∈ ns, (Lit.int .i64 n).wf = true := by
  obtain ⟨cs, rfl, hsz⟩ := okWide_struct hs hv
  obtain ⟨fuel, hf⟩ := h
  obtain ⟨xs, n, _, hx, _, hlen, hg⟩ := DataW.trod_struct hs hf
  have hsz' : cs.size = fs.size := hsz.trans hC
  have key : ∀ (i : Nat) (hi : i < fs.size), ∃ m, cs[i]'(by omega) = .int .i64 m ∧ xs[i]'(by omega) = (.lit (.int .i64 m), []) ∧ (Lit.int .i64 m).wf = true := by
    intro i hi
    have hf : fs[i]? = some fs[i] := Array.getElem?_eq_getElem hi
    obtain ⟨ho, hk⟩ := hone_of hone i _ hf
    have hty : fs[i].type = T := by
      have := List.all_eq_true.1 hall fs[i] (by simp)
      simpa using this
    have hg' := hg i _ hf
    rw [ho, hk, hty] at hg'
    have hgc : DataW.trod enc P w base spare held n T [cs[i]'(by omega)] = xs[i]? := by
      rw [← one_cell (cs := cs) (i := i) (by omega)]
      exact hg'
    rw [List.getElem?_eq_getElem (by omega)] at hgc
    obtain ⟨m, e1, e2, hw⟩ := DataW.trod_int hT hgc
    exact ⟨m, by simpa using e1, e2, hw⟩
  refine ⟨cs.toList.map intOf, by simp [hsz'], ?_, ?_, ?_, ?_⟩
  · congr 1
    apply Array.ext
    · simp [vals]
    · intro i h1 h2
      obtain ⟨m, e, _, _⟩ := key i (by omega)
      simp [vals, e, intOf]
  · simp only [Prod.mk.injEq] at hx
    rw [hx.1]
    congr 1
    apply List.ext_getElem
    · simp [lits, hlen, hsz']
    · intro i h1 h2
      obtain ⟨m, e, e2, _⟩ := key i (by simpa [hlen] using h1)
      simp [lits, e, e2, intOf]
  · simp only [Prod.mk.injEq] at hx
    rw [hx.2, List.flatMap_eq_nil_iff]
    intro y hy
    obtain ⟨i, hi, rfl⟩ := List.getElem_of_mem hy
    obtain ⟨m, _, e2, _⟩ := key i (by omega)
    rw [e2]
  · intro n hn
    obtain ⟨v, hv, rfl⟩ := List.mem_map.1 hn
    obtain ⟨i, hi, rfl⟩ := List.getElem_of_mem hv
    obtain ⟨m, e, _, hw⟩ := key i (by simpa [hsz'] using hi)
    simp only [Array.getElem_toList, e, intOf]
    exact hw


theorem one_of {l : List Int} (h : l.length = 1) : ∃ a, l = [a] := by
  match l, h with
  | [a], _ => exact ⟨a, rfl⟩
theorem two_of {l : List Int} (h : l.length = 2) : ∃ a b, l = [a, b] := by
  match l, h with
  | [a, b], _ => exact ⟨a, b, rfl⟩
theorem four_of {l : List Int} (h : l.length = 4) : ∃ a b c d, l = [a, b, c, d] := by
  match l, h with
  | [a, b, c, d], _ => exact ⟨a, b, c, d, rfl⟩
theorem six_of {l : List Int} (h : l.length = 6) : ∃ a b c d e f, l = [a, b, c, d, e, f] := by
  match l, h with
  | [a, b, c, d, e, f], _ => exact ⟨a, b, c, d, e, f, rfl⟩

/-! ### A slice of structs of two whole numbers -/
theorem open_slice_fields {t e : TypeId} {fs : Array Field} {fuel : Nat} {cs : List Value} {x : DataW H × List MemPlace} (ht : P.underlying t = some (.slice e)) (he : P.underlying e = some (.struct fs))
    (hone : oneCellFields P fs = true) (hC : P.cellsOf e = fs.size) (h : DataW.trod enc P w base spare held fuel t cs = some x) :
    (cs = [.slice none 0 0] ∧ x = (.nil, [])) ∨
    ∃ (a : Addr) (len cap m : Nat), cs = [.slice (some a) len cap] ∧ len ≤ cap ∧ cap ≤ maxLen ∧ m = (if spare a.block then cap else len) ∧
      ∀ i, i < m → ∃ (ys : List (DataW H × List MemPlace)) (n : Nat), ys.length = fs.size ∧
        ∀ (j : Nat) (f : Field), fs[j]? = some f → ∃ (v : Value) (y : DataW H × List MemPlace), w.cell? (a.add (i * fs.size + j)) = some v ∧ ys[j]? = some y ∧ DataW.trod enc P w base spare held n f.type [v] = some y := by
  rcases open_slice ht h with h0 | ⟨a, len, cap, m, n, D, Pl, hcs, hb, hl, hm, hmm, hx, hi⟩
  · exact .inl h0
  · refine .inr ⟨a, len, cap, m, hcs, hl, hm, hmm, fun i him => ?_⟩
    obtain ⟨cs', hc, ht'⟩ := hi i him
    rw [hC] at hc
    obtain ⟨ys, n', hn', hy, hlen, hyl, hf⟩ := DataW.trod_struct he ht'
    obtain ⟨_, hcl, hat⟩ := World.cells?_some hc
    refine ⟨ys, n', hyl, fun j f hj => ?_⟩
    obtain ⟨ho, hk⟩ := hone_of hone j f hj
    have hjl : j < fs.size := (Array.getElem?_eq_some_iff.1 hj).1
    have hcell := hat j hjl
    have hv : cs'[j]? = some (cs'[j]'(by omega)) := List.getElem?_eq_getElem (by omega)
    have h1 := hf j f hj
    rw [ho, hk] at h1
    have hone' : (cs'.drop j).take 1 = [cs'[j]'(by omega)] := by
      rw [List.drop_eq_getElem_cons (by omega)]
      rfl
    rw [hone'] at h1
    have hys : ys[j]? = some (ys[j]'(by omega)) := List.getElem?_eq_getElem (by omega)
    refine ⟨_, _, ?_, hys, h1.trans hys⟩
    rw [← Go.Deep.add_add, hcell, hv]

def val (w : World) (a : Addr) : Int := match w.cell? a with
  | some v => intOf v
  | none => 0

/-- A slice value that reads as pairs of whole numbers. -/
def IsPairs (w : World) (A : Option Addr) (len cap : Nat) (zs : List (Int × Int)) : Prop :=
  zs.length = len ∧ len ≤ cap ∧ len ≤ 9223372036854775807 ∧ (∀ p ∈ zs, (Lit.int .i64 p.1).wf = true ∧ (Lit.int .i64 p.2).wf = true) ∧
  (0 < len → ∃ a, A = some a ∧ ∀ (j : Nat) p, zs[j]? = some p → w.cell? (a.add (j * 2)) = some (.int .i64 p.1) ∧ w.cell? (a.add (j * 2 + 1)) = some (.int .i64 p.2))

theorem open_pairs {t e T : TypeId} {f0 f1 : Field} {fuel : Nat} {v : Value} {x : DataW H × List MemPlace} (ht : P.underlying t = some (.slice e)) (he : P.underlying e = some (.struct #[f0, f1]))
    (hone : oneCellFields P #[f0, f1] = true) (hC : P.cellsOf e = 2) (h0 : f0.type = T) (h1 : f1.type = T) (hT : P.underlying T = some (.int .i64)) (h : DataW.trod enc P w base spare held fuel t [v] = some x) :
    ∃ A len cap zs, v = .slice A len cap ∧ IsPairs w A len cap zs := by
  rcases open_slice_fields ht he hone hC h with ⟨hv, _⟩ | ⟨a, len, cap, m, hv, hl, hm, hmm, hi⟩
  · simp only [List.cons.injEq, and_true] at hv
    subst hv
    exact ⟨none, 0, 0, [], rfl, rfl, Nat.le_refl _, by omega, by simp, fun h => absurd h (by omega)⟩
  · simp only [List.cons.injEq, and_true] at hv
    subst hv
    have hmm' : len ≤ m := by
      rw [hmm]
      split
      · exact hl
      · exact Nat.le_refl _
    have key : ∀ i, i < len → ∃ p q, w.cell? (a.add (i * 2)) = some (.int .i64 p) ∧ w.cell? (a.add (i * 2 + 1)) = some (.int .i64 q) ∧ (Lit.int .i64 p).wf = true ∧ (Lit.int .i64 q).wf = true := by
      intro i hlt
      obtain ⟨ys, n, _, hf⟩ := hi i (by omega)
      obtain ⟨v0, y0, c0, _, t0⟩ := hf 0 f0 rfl
      obtain ⟨v1, y1, c1, _, t1⟩ := hf 1 f1 rfl
      rw [h0] at t0
      rw [h1] at t1
      obtain ⟨p, e0, _, w0⟩ := DataW.trod_int hT t0
      obtain ⟨q, e1, _, w1⟩ := DataW.trod_int hT t1
      simp only [List.cons.injEq, and_true] at e0 e1
      subst e0
      subst e1
      exact ⟨p, q, by simpa using c0, by simpa using c1, w0, w1⟩
    have vals : ∀ i, i < len → w.cell? (a.add (i * 2)) = some (.int .i64 (val w (a.add (i * 2)))) ∧ w.cell? (a.add (i * 2 + 1)) = some (.int .i64 (val w (a.add (i * 2 + 1)))) ∧
        (Lit.int .i64 (val w (a.add (i * 2)))).wf = true ∧ (Lit.int .i64 (val w (a.add (i * 2 + 1)))).wf = true := by
      intro i hlt
      obtain ⟨p, q, c0, c1, w0, w1⟩ := key i hlt
      simp only [val, c0, c1, intOf]
      exact ⟨trivial, trivial, w0, w1⟩
    refine ⟨some a, len, cap, (List.range len).map fun i => (val w (a.add (i * 2)), val w (a.add (i * 2 + 1))), rfl, by simp, hl, by unfold maxLen at hm; omega, ?_, fun _ => ⟨a, rfl, ?_⟩⟩
    · intro p hp
      simp only [List.mem_map, List.mem_range] at hp
      obtain ⟨i, hlt, rfl⟩ := hp
      exact (vals i hlt).2.2
    · intro j p hp
      simp only [List.getElem?_map, Option.map_eq_some_iff] at hp
      obtain ⟨i, hi', rfl⟩ := hp
      have hij : i = j ∧ j < len := by
        rw [List.getElem?_eq_some_iff] at hi'
        obtain ⟨hl', he'⟩ := hi'
        simp at hl' he'
        exact ⟨he'.symm, hl'⟩
      obtain ⟨rfl, hlt⟩ := hij
      exact ⟨(vals i hlt).1, (vals i hlt).2.1⟩

/-- A slice value that reads as whole numbers. -/
def IsNums (w : World) (A : Option Addr) (len cap : Nat) (zs : List Int) : Prop :=
  zs.length = len ∧ len ≤ cap ∧ len ≤ 9223372036854775807 ∧ (∀ n ∈ zs, (Lit.int .i64 n).wf = true) ∧
  (0 < len → ∃ a, A = some a ∧ ∀ j, j < len → w.cell? (a.add j) = some (.int .i64 (zs.getD j 0)))

theorem open_nums {t e : TypeId} {fuel : Nat} {v : Value} {x : DataW H × List MemPlace} (ht : P.underlying t = some (.slice e)) (he : P.underlying e = some (.int .i64)) (hC : P.cellsOf e = 1)
    (h : DataW.trod enc P w base spare held fuel t [v] = some x) : ∃ A len cap zs, v = .slice A len cap ∧ IsNums w A len cap zs := by
  rcases Go.ChangeShapes.open_ints ht he hC h with ⟨hv, _⟩ | ⟨a, len, cap, zs, hv, _, hl, hm, hz, _, hcell, hwz⟩
  · simp only [List.cons.injEq, and_true] at hv
    subst hv
    exact ⟨none, 0, 0, [], rfl, rfl, Nat.le_refl _, by omega, by simp, fun h => absurd h (by omega)⟩
  · simp only [List.cons.injEq, and_true] at hv
    subst hv
    have hz' : len ≤ zs.length := by
      rw [hz]
      split
      · exact hl
      · exact Nat.le_refl _
    refine ⟨some a, len, cap, zs.take len, rfl, by simp; omega, hl, by unfold maxLen at hm; omega, fun n hn => hwz n (List.mem_of_mem_take hn), fun _ => ⟨a, rfl, fun j hj => ?_⟩⟩
    rw [hcell j (by omega)]
    simp only [List.getD_eq_getElem?_getD, List.getElem?_take, if_pos hj]
end
end Go.Proofs.YtpmgfmalpijjbaaDoor.Agg
