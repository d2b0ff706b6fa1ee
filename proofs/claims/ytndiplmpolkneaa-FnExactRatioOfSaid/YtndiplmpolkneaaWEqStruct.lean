-- Words that print.sh laid for this seat (OWN=1), cut down by a program of this repo (wip/tools/prune.py) to the declarations that this claim asks for.
import Derived.Test.YtndiplmpolkneaaWWords
import Derived.Laws.StructEq
/-! ### 53. '==' of structs as_ one Bool -/
namespace Go.Proofs.YtndiplmpolkneaaW.PrintWords
open Go.RowKit
section
variable {P : Program} {d : Nat} {xs ys : Array Value} {f : Field} {fs : List Field} {a b : Value} {r s : Bool} {w : World}
end
end Go.Proofs.YtndiplmpolkneaaW.PrintWords
