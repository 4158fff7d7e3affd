/- Structs of whole numbers, handed by value: opened to their numbers, and shut again. No condition beside the type's own shape. -/
import Derived.ChangeSame
import Derived.Lib.SmallJoins
import Derived.Deep.Fields
import Derived.RowKit
namespace Go.Proofs.Ytjipfhcekjmjkaa.Agg
open Go.Joins Go.ChangeShapes Go.WideShapes Go.RowKit Go.Deep

section
variable {H : Type} {enc : TypeId × Value → H} {P : Program} {w : World} {base : Nat} {spare : Nat → Bool} {held : Bool}

def vals (ns : List Int) : List Value := ns.map fun n => .int .i64 n
def lits (H : Type) (ns : List Int) : List (DataW H) := ns.map fun n => .lit (.int .i64 n)

theorem one_cell {cs : Array Value} {i : Nat} (h : i < cs.size) : (cs.toList.drop i).take 1 = [cs[i]] := by
  rw [List.drop_eq_getElem_cons (by simpa using h)]
  simp

theorem open_ints {r : Reach} {b0 : Nat} {t T : TypeId} {fs : Array Field} {v : Value} {d : DataW H} {p : List MemPlace} (hs : P.underlying t = some (.struct fs)) (hone : oneCellFields P fs = true) (hC : P.cellsOf t = fs.size)
    (hall : fs.toList.all (fun f => f.type == T) = true) (hT : P.underlying T = some (.int .i64)) (hv : Value.okWide P w r b0 t v) (h : DataW.Trod enc P w base spare held t v d p) :
    ∃ ns : List Int, ns.length = fs.size ∧ v = .agg (vals ns).toArray ∧ d = .agg (lits H ns) ∧ p = [] ∧ ∀ n ∈ ns, (Lit.int .i64 n).wf = true := by
  obtain ⟨cs, rfl, hsz⟩ := okWide_struct hs hv
  obtain ⟨fuel, hf⟩ := h
  obtain ⟨xs, n, _, hx, _, hlen, hg⟩ := DataW.trod_struct hs hf
  have hsz' : cs.size = fs.size := hsz.trans hC
  have key : ∀ (i : Nat) (hi : i < fs.size), ∃ m, cs[i]'(by omega) = .int .i64 m ∧ xs[i]'(by omega) = (.lit (.int .i64 m), []) ∧ (Lit.int .i64 m).wf = true := by
    intro i hi
    have hf : fs[i]? = some fs[i] := Array.getElem?_eq_getElem hi
    obtain ⟨ho, hk⟩ := hone_of hone i _ hf
    have hty : fs[i].type = T := by
      have := List.all_eq_true.1 hall fs[i] (by simp)
      simpa using this
    have hg' := hg i _ hf
    rw [ho, hk, hty] at hg'
    have hgc : DataW.trod enc P w base spare held n T [cs[i]'(by omega)] = xs[i]? := by
      rw [← one_cell (cs := cs) (i := i) (by omega)]
      exact hg'
    rw [List.getElem?_eq_getElem (by omega)] at hgc
    obtain ⟨m, e1, e2, hw⟩ := DataW.trod_int hT hgc
    exact ⟨m, by simpa using e1, e2, hw⟩
  refine ⟨cs.toList.map intOf, by simp [hsz'], ?_, ?_, ?_, ?_⟩
  · congr 1
    apply Array.ext
    · simp [vals]
    · intro i h1 h2
      obtain ⟨m, e, _, _⟩ := key i (by omega)
      simp [vals, e, intOf]
  · simp only [Prod.mk.injEq] at hx
    rw [hx.1]
    congr 1
    apply List.ext_getElem
    · simp [lits, hlen, hsz']
    · intro i h1 h2
      obtain ⟨m, e, e2, _⟩ := key i (by simpa [hlen] using h1)
      simp [lits, e, e2, intOf]
  · simp only [Prod.mk.injEq] at hx
    rw [hx.2, List.flatMap_eq_nil_iff]
    intro y hy
    obtain ⟨i, hi, rfl⟩ := List.getElem_of_mem hy
    obtain ⟨m, _, e2, _⟩ := key i (by omega)
    rw [e2]
  · intro n hn
    obtain ⟨v, hv, rfl⟩ := List.mem_map.1 hn
    obtain ⟨i, hi, rfl⟩ := List.getElem_of_mem hv
    obtain ⟨m, e, _, hw⟩ := key i (by simpa [hsz'] using hi)
    simp only [Array.getElem_toList, e, intOf]
    exact hw


theorem one_of {l : List Int} (h : l.length = 1) : ∃ a, l = [a] := by
  match l, h with
  | [a], _ => exact ⟨a, rfl⟩
theorem two_of {l : List Int} (h : l.length = 2) : ∃ a b, l = [a, b] := by
  match l, h with
  | [a, b], _ => exact ⟨a, b, rfl⟩
theorem four_of {l : List Int} (h : l.length = 4) : ∃ a b c d, l = [a, b, c, d] := by
  match l, h with
  | [a, b, c, d], _ => exact ⟨a, b, c, d, rfl⟩
theorem six_of {l : List Int} (h : l.length = 6) : ∃ a b c d e f, l = [a, b, c, d, e, f] := by
  match l, h with
  | [a, b, c, d, e, f], _ => exact ⟨a, b, c, d, e, f, rfl⟩
end
end Go.Proofs.Ytjipfhcekjmjkaa.Agg
