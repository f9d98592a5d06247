-- Out of the words that print.sh has printed for this seat: what this claim names (cut by prune.py).
import Derived.Test.YtngjaaldidmgjaaWInv
import Derived.Test.YtngjaaldidmgjaaWFootNe
namespace Go.Proofs.YtngjaaldidmgjaaW.PrintWords
open Go.RowKit
end Go.Proofs.YtngjaaldidmgjaaW.PrintWords
namespace Go.Proofs.YtngjaaldidmgjaaW.PrintLast
section
variable {ops : Array Oper} {a : Act} {o og : Oper} {g : Nat} {t : Tmp} {u : Bool}
end
end Go.Proofs.YtngjaaldidmgjaaW.PrintLast
