-- Words that print.sh laid for this seat (OWN=1), cut down by a program of this repo (wip/tools/prune.py) to the declarations that this claim asks for.
import Derived.Test.YtndiplmpolkneaaWTab
/-! ### 56. Four, five, six operations that may come up next, in any order -/
namespace Go.Proofs.YtndiplmpolkneaaW.PrintLast
section
variable {P : Program} {ops : Array Oper} {Q : Exit → Act → World → Prop} {md : Region.Mode} {S : World → Prop} {ds : List Nat} {T : Bool × List (List Nat × List Nat)}
end
end Go.Proofs.YtndiplmpolkneaaW.PrintLast
