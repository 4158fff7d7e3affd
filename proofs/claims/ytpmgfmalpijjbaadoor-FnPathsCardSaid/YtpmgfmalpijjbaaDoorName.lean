/- A world or a callee's region under a name of its own: plain laws on the walk's goal. -/
import Derived.Test.YtpmgfmalpijjbaaDoorWWords
namespace Go.Proofs.YtpmgfmalpijjbaaDoor.Name
open Go.RowKit Go.Proofs.YtpmgfmalpijjbaaDoorW.PrintWords
/-- The walk goes on in a world that has a name. -/
theorem name_world {P : Program} {c : Code} {Q : Exit → Act → World → Prop} {a : Act} {W : World} (h : ∀ w7, w7 = W → Code.wp P c Q a w7) : Code.wp P c Q a W := h W rfl
theorem name_then {K : Act → World → Prop} {Q : Exit → Act → World → Prop} {a : Act} {W : World} (h : ∀ w7, w7 = W → Exit.then K Q Exit.normal a w7) : Exit.then K Q Exit.normal a W := h W rfl
/-- A row isn't in a block that its own condition bars. -/
theorem nb {α : Type} {d : Kd α} {e : Nat} {w : World} {base : Nat} {ok : Nat → Prop} {v : Value} {xs : List α} {g : Nat} (h : Kd.R d e w base ok v xs) (hg : ¬ ok g) : some g ≠ v.ownBlock := fun he => hg (h.1 g he.symm)
end Go.Proofs.YtpmgfmalpijjbaaDoor.Name
