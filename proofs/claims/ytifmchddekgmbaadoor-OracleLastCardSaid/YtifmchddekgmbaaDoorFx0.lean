-- Written by myprint.py (a program of this session's, over the kit's print.py). Not trusted: Lean checks it.
import Derived.Test.YtifmchddekgmbaaDoorProg
import Derived.Below
import Derived.Deep.Draws
import Derived.Deep.AppendLies
import Derived.Maps.AppendAt
import Derived.OwnWalk
import Derived.Laws.BytesArg
import Derived.Laws.MakeOwn
import Derived.Laws.OwnMore
import Derived.Deep.OwnRows
import Derived.Tactics
import Derived.Lib.ConvBytes
import Derived.Laws.Slices
import Derived.WalkKit
import Derived.KernelRfl
import Derived.RowKit3
import Derived.Deep.LoopGhost
import Derived.Deep.QuietTactic
import Derived.BigQuiet
import Derived.WideLaws
import Derived.Deep.DeepCutAuto
import Derived.Deep.CutBlock
import Derived.Deep.RegionHeld3
import Derived.Laws.Rows
import Derived.Lib.AppendStr
import Derived.ArgAppend
import Derived.Laws.IdiomCopy
import Derived.OrdersHeld
import Derived.Laws.BitsLemmas
import Derived.RowKit
import Derived.Test.YtifmchddekgmbaaDoorOBase
import Derived.Test.YtifmchddekgmbaaDoorWWords
import Derived.Test.YtifmchddekgmbaaDoorWLast
import Derived.Test.YtifmchddekgmbaaDoorWTab
import Derived.Test.YtifmchddekgmbaaDoorWFour
import Derived.Test.YtifmchddekgmbaaDoorWQPut
import Derived.Test.YtifmchddekgmbaaDoorWApart
import Derived.Test.YtifmchddekgmbaaDoorWArr
import Derived.Test.YtifmchddekgmbaaDoorWZeros
import Derived.Test.YtifmchddekgmbaaDoorWFoot
import Derived.Test.YtifmchddekgmbaaDoorWKept
import Derived.Test.YtifmchddekgmbaaDoorWShare
import Derived.Test.YtifmchddekgmbaaDoorWN
import Derived.Test.YtifmchddekgmbaaDoorWFootNe
import Derived.Test.YtifmchddekgmbaaDoorWAt
import Derived.Test.YtifmchddekgmbaaDoorWEqStruct
import Derived.Test.YtifmchddekgmbaaDoorWRepsOne
import Derived.Test.YtifmchddekgmbaaDoorWInv
import Derived.Test.YtifmchddekgmbaaDoorWInvWords
import Derived.Test.YtifmchddekgmbaaDoorWGuard
import Derived.Test.YtifmchddekgmbaaDoorWNEv
import Derived.Test.YtifmchddekgmbaaDoorWMore
namespace Go.Proofs.YtifmchddekgmbaaDoor.F
open Go.RowKit Go.Proofs.YtifmchddekgmbaaDoorW.PrintWords Go.Proofs.YtifmchddekgmbaaDoorW.PrintLast Go.Proofs.YtifmchddekgmbaaDoorW.PrintMore
attribute [local go_sem] max2_int min2_int max_two min_two max_three min_three max_four min_four   -- for this text's walks alone
set_option linter.unusedVariables false
set_option linter.unusedSimpArgs false



def errW : Option Int → Value
  | none => .nilIface
  | some c => .iface 0 (.int .i64 c)
theorem errW_none : errW none = .nilIface := rfl
theorem errW_some (c : Int) : errW (some c) = .iface 0 (.int .i64 c) := rfl

theorem info3 : (Tryd.prog.info? 3).map (fun i => (i.zero, i.size, i.bytes)) = some (some (.int .i64 0), 1, 8) := by kernel_rfl
theorem info5 : (Tryd.prog.info? 5).map (fun i => (i.zero, i.size, i.bytes)) = some (some (.int .u8 0), 1, 1) := by kernel_rfl
-- the values' own types

end Go.Proofs.YtifmchddekgmbaaDoor.F
