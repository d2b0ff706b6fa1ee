-- Words that print.sh laid for this seat (OWN=1), cut down by a program of this repo (wip/tools/prune.py) to the declarations that this claim asks for.
import Derived.SizedLaws
import Derived.ChangeSlices
namespace Go.Proofs.YtndiplmpolkneaaW.PrintWords
open Go.ChangeShapes Go.WideShapes
end Go.Proofs.YtndiplmpolkneaaW.PrintWords
