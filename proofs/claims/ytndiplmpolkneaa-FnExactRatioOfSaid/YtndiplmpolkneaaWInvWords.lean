-- Words that print.sh laid for this seat (OWN=1), cut down by a program of this repo (wip/tools/prune.py) to the declarations that this claim asks for.
import Derived.Test.YtndiplmpolkneaaWInv
import Derived.Test.YtndiplmpolkneaaWFootNe
namespace Go.Proofs.YtndiplmpolkneaaW.PrintWords
open Go.RowKit
end Go.Proofs.YtndiplmpolkneaaW.PrintWords
namespace Go.Proofs.YtndiplmpolkneaaW.PrintLast
section
variable {ops : Array Oper} {a : Act} {o og : Oper} {g : Nat} {t : Tmp} {u : Bool}
end
end Go.Proofs.YtndiplmpolkneaaW.PrintLast
