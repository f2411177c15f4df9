-- Words by hand, filled by myprint.py for this seat.
import Derived.Test.YtphifpibjgeijaaProg
import Derived.Below
import Derived.Deep.Draws
import Derived.Deep.AppendLies
import Derived.Maps.AppendAt
import Derived.OwnWalk
import Derived.Laws.BytesArg
import Derived.Laws.MakeOwn
import Derived.Laws.OwnMore
import Derived.Deep.OwnRows
import Derived.Tactics
import Derived.Lib.ConvBytes
import Derived.Laws.Slices
import Derived.WalkKit
import Derived.KernelRfl
import Derived.RowKit3
import Derived.Deep.LoopGhost
import Derived.Deep.QuietTactic
import Derived.BigQuiet
import Derived.WideLaws
import Derived.Deep.DeepCutAuto
import Derived.Deep.CutBlock
import Derived.Deep.RegionHeld3
import Derived.Laws.Rows
import Derived.Lib.AppendStr
import Derived.ArgAppend
import Derived.Laws.IdiomCopy
import Derived.OrdersHeld
import Derived.Laws.BitsLemmas
import Derived.RowKit
import Derived.Test.YtphifpibjgeijaaWWords
import Derived.Test.YtphifpibjgeijaaWLast
import Derived.Test.YtphifpibjgeijaaWTab
import Derived.Test.YtphifpibjgeijaaWFour
import Derived.Test.YtphifpibjgeijaaWQPut
import Derived.Test.YtphifpibjgeijaaWApart
import Derived.Test.YtphifpibjgeijaaWArr
import Derived.Test.YtphifpibjgeijaaWZeros
import Derived.Test.YtphifpibjgeijaaWFoot
import Derived.Test.YtphifpibjgeijaaWKept
import Derived.Test.YtphifpibjgeijaaWShare
import Derived.Test.YtphifpibjgeijaaWN
import Derived.Test.YtphifpibjgeijaaWFootNe
import Derived.Test.YtphifpibjgeijaaWAt
import Derived.Test.YtphifpibjgeijaaWEqStruct
import Derived.Test.YtphifpibjgeijaaWRepsOne
import Derived.Test.YtphifpibjgeijaaWInv
import Derived.Test.YtphifpibjgeijaaWInvWords
import Derived.Test.YtphifpibjgeijaaWGuard
import Derived.Test.YtphifpibjgeijaaWNEv
import Derived.Test.YtphifpibjgeijaaWMore
namespace Go.Proofs.Ytphifpibjgeijaa.F
open Go.RowKit Go.Proofs.YtphifpibjgeijaaW.PrintWords Go.Proofs.YtphifpibjgeijaaW.PrintLast Go.Proofs.YtphifpibjgeijaaW.PrintMore
/-! Words of this session's beside the print's own. -/
/-- A text made of bytes that may be shared. -/
theorem V_string_ {P : Program} {w : World} {src dst e e' base : Nat} {ok : Nat → Prop} {v : Value} {xs : List Int} (hs : P.underlying src = some (.slice e)) (he : P.underlying e = some (.int .u8)) (hd : P.underlying dst = some .string)
    (h : Kd.V (Kd.int .u8) e' w base ok v xs) : (convert src dst v).run P w = .ok (.string (strOfNums xs)) w := by
  obtain ⟨A, c, rfl⟩ := Kd.V_slice h
  exact Kd.C_string hs he hd (Kd.V_reads' h).2.2

end Go.Proofs.Ytphifpibjgeijaa.F
