/- quiverlaw01.FieldBack answers true for every row of parts: the walk. -/
import Derived.Test.YtanijhlpneiebaaBack
import Derived.Test.YtanijhlpneiebaaBackO
namespace Go.Proofs.Ytanijhlpneiebaa.G
open Go.RowKit Go.Proofs.YtanijhlpneiebaaW.PrintWords Go.Proofs.YtanijhlpneiebaaW.PrintLast Go.Proofs.YtanijhlpneiebaaW.PrintMore
set_option linter.unusedVariables false

theorem fieldBack.walk (A : Option Addr) (c : Nat) (l : List (Int × Int)) (w : World) (hl : l.length ≤ c) (hC : kPart.C w A l.length l) (hw : ∀ x ∈ l, (Lit.int .i64 x.1).wf = true ∧ (Lit.int .u64 x.2).wf = true) :
    Calls Try.prog 4 #[.slice A l.length c] w fun e w' => e = .returned (.bool true) ∧ Below w.heap.size w w' := by
  by_cases h : 300 < l.length
  · exact fieldBack_out A c l.length w (Kd.C_max hC) h
  · exact fieldBack_in A c l w hl hC (fun x hx => ⟨wf_i64 (hw x hx).1, wf_u64 (hw x hx).2⟩) (by omega)

end Go.Proofs.Ytanijhlpneiebaa.G
