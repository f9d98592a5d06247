-- Out of the words that print.sh has printed for this seat: what this claim names (cut by prune.py).
import Derived.Test.YtngjaaldidmgjaaWWords
import Derived.Laws.StructEq
/-! ### 53. '==' of structs as_ one Bool -/
namespace Go.Proofs.YtngjaaldidmgjaaW.PrintWords
open Go.RowKit
section
variable {P : Program} {d : Nat} {xs ys : Array Value} {f : Field} {fs : List Field} {a b : Value} {r s : Bool} {w : World}
end
end Go.Proofs.YtngjaaldidmgjaaW.PrintWords
