/-
  No cell of these rows narrows 'for every input' (looked for: loops, veiled, ifaces, maps, wideKeys, modest, calm, conditions, laid).
  DERIVED. THE GIVEN ROWS OF THIS SEAT. 5 by the template 'for every input the law returns true; each argument reads behind the call as it read before'; 0 by the template 'total and deterministic' (their statements: YtndiplmpolkneaaTotals.lean).
  GIVEN WITH THE SEED: the statements are not yours to turn. If you find one false, say at which input.
  Laid BY PROGRAM, IN A SANDBOX (cutbox-rows.mjs): the forced cells as the released guide's own fill.sh prints them over the translation 05f93d7e965633f1… (all of the seat's roots in one cut). By AI agents, Wed Nov 11 2026. No macro, syntax, notation, axiom, sorry.
-/
import Derived.Test.YtndiplmpolkneaaChecked
import GoSem.Claim
import GoSem.ClaimJoined
import GoSem.ClaimMapViews
import Derived.JoinedTies
import Derived.KernelRfl
namespace Go.Proofs.Ytndiplmpolkneaa
/- THE CELL 'sum', in the pinned program and in every row, IS THE sha256 OF THE DUMP (.gsa) THAT YtndiplmpolkneaaProg.lean LOADS. Nothing in Lean hashes anything: it is a label: what it is worth is what the hold of that sum in a sandbox is worth. -/
noncomputable def Try.pinned : Pinned := { name := "ytndiplmpolkneaa", sum := "05f93d7e965633f1b406435ec571fb53feaca2d8b21dc0667fdeae969cbaa83a", checked := Try.checked }
namespace Rows
def none {H : Type} : Left H := { results := [], args := [] }

/-- 'laws.FnKnown': WHATEVER THE INPUT: true; the input reads as it did. -/
def fnKnownSpec : ChangeSpec := { name := "fnKnown", fn := fun _ => fun
  | [d1, d2] => { results := [.lit (.bool true)], args := [d1, d2] }
  | _ => none }
def fnKnownRow : OpenClaim := { program := "ytndiplmpolkneaa", sum := "05f93d7e965633f1b406435ec571fb53feaca2d8b21dc0667fdeae969cbaa83a", func := "loop.example/g01112/laws.FnKnown", spec := "fnKnown", inPlace := ["slices.overlaps[int64]"], unfollowed := true, recurses := true, apart := false }
def FnKnownSaid : Prop := fnKnownRow.holds Try.pinned (OpenSpec.ofChange fnKnownSpec)

/-- ITS FALSE NEIGHBOUR: 'it returns false'. Refute it at one input. -/
def fnKnownWrong : ChangeSpec := { name := "fnKnown", fn := fun _ => fun
  | [d1, d2] => { results := [.lit (.bool false)], args := [d1, d2] }
  | _ => none }
def FnKnownWrongFalsely : Prop := fnKnownRow.holds Try.pinned (OpenSpec.ofChange fnKnownWrong)

/-- 'laws.FnSteps': WHATEVER THE INPUT: true; the input reads as it did. -/
def fnStepsSpec : ChangeSpec := { name := "fnSteps", fn := fun _ => fun
  | [d1, d2] => { results := [.lit (.bool true)], args := [d1, d2] }
  | _ => none }
def fnStepsRow : OpenClaim := { program := "ytndiplmpolkneaa", sum := "05f93d7e965633f1b406435ec571fb53feaca2d8b21dc0667fdeae969cbaa83a", func := "loop.example/g01112/laws.FnSteps", spec := "fnSteps", unfollowed := true, recurses := true, apart := false }
def FnStepsSaid : Prop := fnStepsRow.holds Try.pinned (OpenSpec.ofChange fnStepsSpec)

/-- ITS FALSE NEIGHBOUR: 'it returns false'. Refute it at one input. -/
def fnStepsWrong : ChangeSpec := { name := "fnSteps", fn := fun _ => fun
  | [d1, d2] => { results := [.lit (.bool false)], args := [d1, d2] }
  | _ => none }
def FnStepsWrongFalsely : Prop := fnStepsRow.holds Try.pinned (OpenSpec.ofChange fnStepsWrong)

/-- 'laws.FnLruSizes': WHATEVER THE INPUT: true; the input reads as it did. -/
def fnLruSizesSpec : ChangeSpec := { name := "fnLruSizes", fn := fun _ => fun
  | [d1, d2] => { results := [.lit (.bool true)], args := [d1, d2] }
  | _ => none }
def fnLruSizesRow : OpenClaim := { program := "ytndiplmpolkneaa", sum := "05f93d7e965633f1b406435ec571fb53feaca2d8b21dc0667fdeae969cbaa83a", func := "loop.example/g01112/laws.FnLruSizes", spec := "fnLruSizes", inPlace := ["slices.overlaps[int64]"], unfollowed := true, recurses := true, apart := false }
def FnLruSizesSaid : Prop := fnLruSizesRow.holds Try.pinned (OpenSpec.ofChange fnLruSizesSpec)

/-- ITS FALSE NEIGHBOUR: 'it returns false'. Refute it at one input. -/
def fnLruSizesWrong : ChangeSpec := { name := "fnLruSizes", fn := fun _ => fun
  | [d1, d2] => { results := [.lit (.bool false)], args := [d1, d2] }
  | _ => none }
def FnLruSizesWrongFalsely : Prop := fnLruSizesRow.holds Try.pinned (OpenSpec.ofChange fnLruSizesWrong)

/-- 'laws.FnOptimal': WHATEVER THE INPUT: true; the input reads as it did. -/
def fnOptimalSpec : ChangeSpec := { name := "fnOptimal", fn := fun _ => fun
  | [d1, d2] => { results := [.lit (.bool true)], args := [d1, d2] }
  | _ => none }
def fnOptimalRow : OpenClaim := { program := "ytndiplmpolkneaa", sum := "05f93d7e965633f1b406435ec571fb53feaca2d8b21dc0667fdeae969cbaa83a", func := "loop.example/g01112/laws.FnOptimal", spec := "fnOptimal", unfollowed := true, recurses := true, apart := false }
def FnOptimalSaid : Prop := fnOptimalRow.holds Try.pinned (OpenSpec.ofChange fnOptimalSpec)

/-- ITS FALSE NEIGHBOUR: 'it returns false'. Refute it at one input. -/
def fnOptimalWrong : ChangeSpec := { name := "fnOptimal", fn := fun _ => fun
  | [d1, d2] => { results := [.lit (.bool false)], args := [d1, d2] }
  | _ => none }
def FnOptimalWrongFalsely : Prop := fnOptimalRow.holds Try.pinned (OpenSpec.ofChange fnOptimalWrong)

/-- 'laws.FnExactRatioOf': WHATEVER THE INPUT: true; the input reads as it did. -/
def fnExactRatioOfSpec : ChangeSpec := { name := "fnExactRatioOf", fn := fun _ => fun
  | [d1, d2] => { results := [.lit (.bool true)], args := [d1, d2] }
  | _ => none }
def fnExactRatioOfRow : OpenClaim := { program := "ytndiplmpolkneaa", sum := "05f93d7e965633f1b406435ec571fb53feaca2d8b21dc0667fdeae969cbaa83a", func := "loop.example/g01112/laws.FnExactRatioOf", spec := "fnExactRatioOf", unfollowed := true, recurses := true, apart := false }
def FnExactRatioOfSaid : Prop := fnExactRatioOfRow.holds Try.pinned (OpenSpec.ofChange fnExactRatioOfSpec)

/-- ITS FALSE NEIGHBOUR: 'it returns false'. Refute it at one input. -/
def fnExactRatioOfWrong : ChangeSpec := { name := "fnExactRatioOf", fn := fun _ => fun
  | [d1, d2] => { results := [.lit (.bool false)], args := [d1, d2] }
  | _ => none }
def FnExactRatioOfWrongFalsely : Prop := fnExactRatioOfRow.holds Try.pinned (OpenSpec.ofChange fnExactRatioOfWrong)

/- THE SECOND FORM. 'bulk': how many values and letters a reading holds, each counted each time it is reached (what is shared counts as often as it is met; a slice's spare places count too). A statement '..UptoSaid' is the law's where the arguments, and the package variables that the reading takes, are together of bulk at most 1048576: NARROWER than '..Said'. Prove '..Said' where nothing that the law and all that it calls make is longer than what came in: it says more and counts as full. Else prove '..UptoSaid'. A law counts once. -/
mutual
def uptoBulk {H : Type} : DataW H → Nat
  | .lit (.string bytes) => bytes.length + 1
  | .lit _ => 1
  | .nil => 1
  | .ptr d => uptoBulk d + 1
  | .slice elems spare => uptoBulkAll elems + uptoBulkAll spare + 1
  | .agg parts => uptoBulkAll parts + 1
  | .iface _ d => uptoBulk d + 1
  | .map entries => uptoBulkEntries entries + 1
  | .held _ => 1
def uptoBulkAll {H : Type} : List (DataW H) → Nat
  | [] => 0
  | d :: r => uptoBulk d + uptoBulkAll r
def uptoBulkEntries {H : Type} : List (Lit × DataW H) → Nat
  | [] => 0
  | x :: r => uptoBulkEntry x + uptoBulkEntries r
def uptoBulkEntry {H : Type} : Lit × DataW H → Nat
  | (.string bytes, d) => bytes.length + uptoBulk d + 1
  | (_, d) => uptoBulk d + 1
 end
def uptoSmall : (H : Type) → List (DataW H) → Bool := fun _ ds => decide (uptoBulkAll ds ≤ 1048576)
def OpenSpec.upto (s : _root_.Go.ChangeSpec) : _root_.Go.OpenSpec := { _root_.Go.OpenSpec.ofChange s with cond := some uptoSmall }

/-- 'laws.FnKnown', WHERE WHAT IT READS IS OF BULK AT MOST 1048576: true; the input reads as it did. -/
def fnKnownUptoRow : OpenClaim := { program := "ytndiplmpolkneaa", sum := "05f93d7e965633f1b406435ec571fb53feaca2d8b21dc0667fdeae969cbaa83a", func := "loop.example/g01112/laws.FnKnown", spec := "fnKnown", inPlace := ["slices.overlaps[int64]"], unfollowed := true, recurses := true, apart := false, narrowed := true }
def FnKnownUptoSaid : Prop := fnKnownUptoRow.holds Try.pinned (OpenSpec.upto fnKnownSpec)

/-- 'laws.FnSteps', WHERE WHAT IT READS IS OF BULK AT MOST 1048576: true; the input reads as it did. -/
def fnStepsUptoRow : OpenClaim := { program := "ytndiplmpolkneaa", sum := "05f93d7e965633f1b406435ec571fb53feaca2d8b21dc0667fdeae969cbaa83a", func := "loop.example/g01112/laws.FnSteps", spec := "fnSteps", unfollowed := true, recurses := true, apart := false, narrowed := true }
def FnStepsUptoSaid : Prop := fnStepsUptoRow.holds Try.pinned (OpenSpec.upto fnStepsSpec)

/-- 'laws.FnLruSizes', WHERE WHAT IT READS IS OF BULK AT MOST 1048576: true; the input reads as it did. -/
def fnLruSizesUptoRow : OpenClaim := { program := "ytndiplmpolkneaa", sum := "05f93d7e965633f1b406435ec571fb53feaca2d8b21dc0667fdeae969cbaa83a", func := "loop.example/g01112/laws.FnLruSizes", spec := "fnLruSizes", inPlace := ["slices.overlaps[int64]"], unfollowed := true, recurses := true, apart := false, narrowed := true }
def FnLruSizesUptoSaid : Prop := fnLruSizesUptoRow.holds Try.pinned (OpenSpec.upto fnLruSizesSpec)

/-- 'laws.FnOptimal', WHERE WHAT IT READS IS OF BULK AT MOST 1048576: true; the input reads as it did. -/
def fnOptimalUptoRow : OpenClaim := { program := "ytndiplmpolkneaa", sum := "05f93d7e965633f1b406435ec571fb53feaca2d8b21dc0667fdeae969cbaa83a", func := "loop.example/g01112/laws.FnOptimal", spec := "fnOptimal", unfollowed := true, recurses := true, apart := false, narrowed := true }
def FnOptimalUptoSaid : Prop := fnOptimalUptoRow.holds Try.pinned (OpenSpec.upto fnOptimalSpec)

/-- 'laws.FnExactRatioOf', WHERE WHAT IT READS IS OF BULK AT MOST 1048576: true; the input reads as it did. -/
def fnExactRatioOfUptoRow : OpenClaim := { program := "ytndiplmpolkneaa", sum := "05f93d7e965633f1b406435ec571fb53feaca2d8b21dc0667fdeae969cbaa83a", func := "loop.example/g01112/laws.FnExactRatioOf", spec := "fnExactRatioOf", unfollowed := true, recurses := true, apart := false, narrowed := true }
def FnExactRatioOfUptoSaid : Prop := fnExactRatioOfUptoRow.holds Try.pinned (OpenSpec.upto fnExactRatioOfSpec)

end Rows
end Go.Proofs.Ytndiplmpolkneaa
