/- The library's table of powers of ten, as a premise on the world; its way through worlds that are as the elder one was below. -/
import Derived.Test.YtekoemmlkdancaaDoorShelf
import Derived.Test.YtekoemmlkdancaaDoorWWords
import Derived.Lib.LaidTab
import Derived.LaidMore
namespace Go.Proofs.YtekoemmlkdancaaDoor.Tab
open Go.RowKit Go.Proofs.YtekoemmlkdancaaDoorW.PrintWords
/-- The table holds the powers of ten. -/
def Is (w : World) : Prop := Lib.TabIs Tryd.prog w "internal/strconv.uint64pow10" .u64 Lib.pow10Tab
theorem Is.below {w w1 : World} (h : Is w) (hb : Below w.heap.size w w1) : Is w1 := by
  unfold Is Lib.TabIs World.var? at *
  cases hg : Tryd.prog.globalNamed "internal/strconv.uint64pow10" with
  | none => simp [hg] at h
  | some g =>
    simp only [hg, Option.bind_some] at h ⊢
    have hlt : g < w.heap.size := by
      rcases Nat.lt_or_ge g w.heap.size with h' | h'
      · exact h'
      · rw [Array.getElem?_eq_none h'] at h
        cases h
    rw [hb.block g hlt]
    exact h
theorem below_grow (w : World) (k : Nat) (os : Array Obj) : Below w.heap.size w (Go.Sort.grow (w.drewN k) os) :=
  (pw_below_drewN (Below.refl _ _) k).trans ⟨rfl, rfl, rfl, by simp [Go.Sort.grow], fun i hi => by
    have h1 : (w.drewN k).heap.size = w.heap.size := by simp
    simp [Go.Sort.grow, Array.getElem?_append, hi]⟩
end Go.Proofs.YtekoemmlkdancaaDoor.Tab
