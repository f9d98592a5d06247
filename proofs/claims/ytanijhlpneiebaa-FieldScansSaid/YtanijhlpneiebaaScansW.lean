/- quiverlaw01.FieldScans: the walk, as the row asks it. -/
import Derived.Test.YtanijhlpneiebaaScans
namespace Go.Proofs.Ytanijhlpneiebaa.G
open Go.RowKit Go.Proofs.YtanijhlpneiebaaW.PrintWords Go.Proofs.YtanijhlpneiebaaW.PrintLast Go.Proofs.YtanijhlpneiebaaW.PrintMore

theorem fieldScans.walk (A : Option Addr) (c : Nat) (l : List Int) (A2 : Option Addr) (c2 : Nat) (q : List (Int × Int)) (w : World) (hl : l.length ≤ c) (hC : Kd.C (Kd.int .u8) w A l.length l) (hw : ∀ x ∈ l, (Lit.int .u8 x).wf = true) (hq : q.length ≤ c2) (hC2 : kAsk2.C w A2 q.length q) (_wq : ∀ x ∈ q, (Lit.int .i64 x.1).wf = true ∧ (Lit.int .i64 x.2).wf = true) :
    Calls Try.prog 6 #[.slice A l.length c, .slice A2 q.length c2] w fun e w' => e = .returned (.bool true) ∧ Below w.heap.size w w' := by
  by_cases h : 5000 < l.length ∨ 200 < q.length
  · exact fieldScans_out A c l.length A2 c2 q.length w (Kd.C_max hC) (Kd.C_max hC2) h
  · exact fieldScans_in A c l A2 c2 q w hl hC (fun x hx => by simpa [Lit.wf, IntKind.min, IntKind.max, IntKind.signed, IntKind.bits] using hw x hx) hq hC2 (by omega) (by omega)

end Go.Proofs.Ytanijhlpneiebaa.G
