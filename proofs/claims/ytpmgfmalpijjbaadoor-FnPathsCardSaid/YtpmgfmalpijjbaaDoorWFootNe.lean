/- The print's words FootNe, of which only what this seat's claims may name is left (wip/trimW.py). -/
import Derived.Test.YtpmgfmalpijjbaaDoorWN
namespace Go.Proofs.YtpmgfmalpijjbaaDoorW.PrintWords
open Go.RowKit
namespace Kd
section
variable {α : Type} {d : Kd α} {W : World} {g n : Nat} {S ok : Nat → Prop} {A : Option Addr} {ad : Addr} {xs : List α}
end
end Kd
end Go.Proofs.YtpmgfmalpijjbaaDoorW.PrintWords
