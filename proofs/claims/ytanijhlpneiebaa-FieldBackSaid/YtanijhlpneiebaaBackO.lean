/- quiverlaw01.FieldBack where more is handed in than is asked: true. -/
import Derived.Test.YtanijhlpneiebaaJoins
namespace Go.Proofs.Ytanijhlpneiebaa.G
open Go.RowKit Go.Proofs.YtanijhlpneiebaaW.PrintWords Go.Proofs.YtanijhlpneiebaaW.PrintLast Go.Proofs.YtanijhlpneiebaaW.PrintMore
set_option linter.unusedVariables false
set_option linter.unusedSimpArgs false

set_option maxRecDepth 100000 in
theorem fieldBack_out (A : Option Addr) (c n : Nat) (w : World) (hm : n ≤ 9223372036854775807) (h : 300 < n) :
    Calls Try.prog 4 #[.slice A n c] w fun e w' => e = .returned (.bool true) ∧ Below w.heap.size w w' := by
  go_enter Try.func4, Try.ntmps4
  go_wp2_with fail
  refine (wakes01.calls true _ rfl).mono ?_
  rintro e w1 ⟨rfl, hb1⟩
  have HB1 := Aside0.mk hb1
  clear hb1
  go_wp2_with fail
  go_returns
  exact ⟨rfl, HB1.out⟩

end Go.Proofs.Ytanijhlpneiebaa.G
