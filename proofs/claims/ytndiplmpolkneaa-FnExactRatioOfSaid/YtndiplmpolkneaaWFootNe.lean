-- Words that print.sh laid for this seat (OWN=1), cut down by a program of this repo (wip/tools/prune.py) to the declarations that this claim asks for.
import Derived.Test.YtndiplmpolkneaaWN
/-! ### 52. A row that stays read whatever happens to a block (a set of blocks) doesn't lie there -/
namespace Go.Proofs.YtndiplmpolkneaaW.PrintWords
open Go.RowKit
namespace Kd
section
variable {α : Type} {d : Kd α} {W : World} {g n : Nat} {S ok : Nat → Prop} {A : Option Addr} {ad : Addr} {xs : List α}
end
end Kd
end Go.Proofs.YtndiplmpolkneaaW.PrintWords
