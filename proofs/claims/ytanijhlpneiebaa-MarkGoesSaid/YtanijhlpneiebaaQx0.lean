/- Written by a program for this claim. -/
import Derived.Test.YtanijhlpneiebaaProg
import Derived.Below
import Derived.Deep.Draws
import Derived.Deep.AppendLies
import Derived.Maps.AppendAt
import Derived.OwnWalk
import Derived.Laws.BytesArg
import Derived.Laws.MakeOwn
import Derived.Laws.OwnMore
import Derived.Deep.OwnRows
import Derived.Tactics
import Derived.Lib.ConvBytes
import Derived.Laws.Slices
import Derived.WalkKit
import Derived.KernelRfl
import Derived.RowKit3
import Derived.Deep.LoopGhost
import Derived.Deep.QuietTactic
import Derived.BigQuiet
import Derived.WideLaws
import Derived.Deep.DeepCutAuto
import Derived.Deep.CutBlock
import Derived.Deep.RegionHeld3
import Derived.Laws.Rows
import Derived.Lib.AppendStr
import Derived.ArgAppend
import Derived.Laws.IdiomCopy
import Derived.OrdersHeld
import Derived.Laws.BitsLemmas
import Derived.RowKit
import Derived.Test.YtanijhlpneiebaaWWords
import Derived.Test.YtanijhlpneiebaaWLast
import Derived.Test.YtanijhlpneiebaaWTab
import Derived.Test.YtanijhlpneiebaaWFour
import Derived.Test.YtanijhlpneiebaaWQPut
import Derived.Test.YtanijhlpneiebaaWApart
import Derived.Test.YtanijhlpneiebaaWArr
import Derived.Test.YtanijhlpneiebaaWZeros
import Derived.Test.YtanijhlpneiebaaWFoot
import Derived.Test.YtanijhlpneiebaaWKept
import Derived.Test.YtanijhlpneiebaaWShare
import Derived.Test.YtanijhlpneiebaaWN
import Derived.Test.YtanijhlpneiebaaWFootNe
import Derived.Test.YtanijhlpneiebaaWAt
import Derived.Test.YtanijhlpneiebaaWEqStruct
import Derived.Test.YtanijhlpneiebaaWRepsOne
import Derived.Test.YtanijhlpneiebaaWInv
import Derived.Test.YtanijhlpneiebaaWInvWords
import Derived.Test.YtanijhlpneiebaaWGuard
import Derived.Test.YtanijhlpneiebaaWNEv
import Derived.Test.YtanijhlpneiebaaWMore
namespace Go.Proofs.Ytanijhlpneiebaa.Q
open Go.RowKit Go.Proofs.YtanijhlpneiebaaW.PrintWords Go.Proofs.YtanijhlpneiebaaW.PrintLast Go.Proofs.YtanijhlpneiebaaW.PrintMore
attribute [local go_sem] max2_int min2_int max_two min_two max_three min_three max_four min_four   -- for this text's walks alone
set_option linter.unusedVariables false
set_option linter.unusedSimpArgs false



def errW : Option Int → Value
  | none => .nilIface
  | some c => .iface 0 (.int .i64 c)
theorem errW_none : errW none = .nilIface := rfl
theorem errW_some (c : Int) : errW (some c) = .iface 0 (.int .i64 c) := rfl

theorem info5 : (Try.prog.info? 5).map (fun i => (i.zero, i.size, i.bytes)) = some (some (.int .u8 0), 1, 1) := by kernel_rfl
-- the values' own types

end Go.Proofs.Ytanijhlpneiebaa.Q
