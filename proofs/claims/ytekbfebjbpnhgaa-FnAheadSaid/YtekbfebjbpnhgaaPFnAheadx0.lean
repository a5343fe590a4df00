/- What the Go functions that this law reaches answer, function by function; conditions: those that each contract names. Made for this claim by a program of this session (wip/myprint) over the kit's print. -/
import Derived.Test.YtekbfebjbpnhgaaProg
import Derived.Below
import Derived.Deep.Draws
import Derived.Deep.AppendLies
import Derived.Maps.AppendAt
import Derived.OwnWalk
import Derived.Laws.BytesArg
import Derived.Laws.MakeOwn
import Derived.Laws.OwnMore
import Derived.Deep.OwnRows
import Derived.Tactics
import Derived.Lib.ConvBytes
import Derived.Laws.Slices
import Derived.WalkKit
import Derived.KernelRfl
import Derived.RowKit3
import Derived.Deep.LoopGhost
import Derived.Deep.QuietTactic
import Derived.BigQuiet
import Derived.WideLaws
import Derived.Deep.DeepCutAuto
import Derived.Deep.CutBlock
import Derived.Deep.RegionHeld3
import Derived.Laws.Rows
import Derived.Lib.AppendStr
import Derived.ArgAppend
import Derived.Laws.IdiomCopy
import Derived.OrdersHeld
import Derived.Laws.BitsLemmas
import Derived.RowKit
import Derived.Shelf.Abstract
import Derived.Test.YtekbfebjbpnhgaaWWords
import Derived.Test.YtekbfebjbpnhgaaWLast
import Derived.Test.YtekbfebjbpnhgaaWTab
import Derived.Test.YtekbfebjbpnhgaaWFour
import Derived.Test.YtekbfebjbpnhgaaWQPut
import Derived.Test.YtekbfebjbpnhgaaWApart
import Derived.Test.YtekbfebjbpnhgaaWArr
import Derived.Test.YtekbfebjbpnhgaaWZeros
import Derived.Test.YtekbfebjbpnhgaaWFoot
import Derived.Test.YtekbfebjbpnhgaaWKept
import Derived.Test.YtekbfebjbpnhgaaWShare
import Derived.Test.YtekbfebjbpnhgaaWN
import Derived.Test.YtekbfebjbpnhgaaWFootNe
import Derived.Test.YtekbfebjbpnhgaaWAt
import Derived.Test.YtekbfebjbpnhgaaWEqStruct
import Derived.Test.YtekbfebjbpnhgaaWRepsOne
import Derived.Test.YtekbfebjbpnhgaaWInv
import Derived.Test.YtekbfebjbpnhgaaWInvWords
import Derived.Test.YtekbfebjbpnhgaaWGuard
import Derived.Test.YtekbfebjbpnhgaaWNEv
import Derived.Test.YtekbfebjbpnhgaaWMore
namespace Go.Proofs.Ytekbfebjbpnhgaa.PFnAhead
open Go.RowKit Go.Proofs.YtekbfebjbpnhgaaW.PrintWords Go.Proofs.YtekbfebjbpnhgaaW.PrintLast Go.Proofs.YtekbfebjbpnhgaaW.PrintMore
attribute [local go_sem] max2_int min2_int max_two min_two max_three min_three max_four min_four   -- for this text's walks alone
set_option linter.unusedVariables false
set_option linter.unusedSimpArgs false



def errW : Option Int → Value
  | none => .nilIface
  | some c => .iface 0 (.int .i64 c)
theorem errW_none : errW none = .nilIface := rfl
theorem errW_some (c : Int) : errW (some c) = .iface 0 (.int .i64 c) := rfl

theorem info3 : (Try.prog.info? 3).map (fun i => (i.zero, i.size, i.bytes)) = some (some (.int .i64 0), 1, 8) := by kernel_rfl
theorem info5 : (Try.prog.info? 5).map (fun i => (i.zero, i.size, i.bytes)) = some (some (.int .u8 0), 1, 1) := by kernel_rfl
-- the values' own types

end Go.Proofs.Ytekbfebjbpnhgaa.PFnAhead
