-- Out of the words that print.sh has printed for this seat: what this claim names (cut by prune.py).
import Derived.Test.YtngjaaldidmgjaaWTab
/-! ### 56. Four, five, six operations that may come up next, in any order -/
namespace Go.Proofs.YtngjaaldidmgjaaW.PrintLast
section
variable {P : Program} {ops : Array Oper} {Q : Exit → Act → World → Prop} {md : Region.Mode} {S : World → Prop} {ds : List Nat} {T : Bool × List (List Nat × List Nat)}
end
end Go.Proofs.YtngjaaldidmgjaaW.PrintLast
