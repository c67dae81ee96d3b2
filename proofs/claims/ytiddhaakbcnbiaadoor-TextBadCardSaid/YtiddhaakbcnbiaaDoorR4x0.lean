-- written by wip/gen.py (this session's own driver of the kit's printer); Lean checks it
import Derived.Test.YtiddhaakbcnbiaaDoorProg
import Derived.Below
import Derived.Deep.Draws
import Derived.Deep.AppendLies
import Derived.Maps.AppendAt
import Derived.OwnWalk
import Derived.Laws.BytesArg
import Derived.Laws.MakeOwn
import Derived.Laws.OwnMore
import Derived.Deep.OwnRows
import Derived.Tactics
import Derived.Lib.ConvBytes
import Derived.Laws.Slices
import Derived.WalkKit
import Derived.KernelRfl
import Derived.RowKit3
import Derived.Deep.LoopGhost
import Derived.Deep.QuietTactic
import Derived.BigQuiet
import Derived.WideLaws
import Derived.Deep.DeepCutAuto
import Derived.Deep.CutBlock
import Derived.Deep.RegionHeld3
import Derived.Laws.Rows
import Derived.Lib.AppendStr
import Derived.ArgAppend
import Derived.Laws.IdiomCopy
import Derived.OrdersHeld
import Derived.Laws.BitsLemmas
import Derived.RowKit
import Derived.Test.YtiddhaakbcnbiaaDoorTVal
import Derived.Test.YtiddhaakbcnbiaaDoorWWords
import Derived.Test.YtiddhaakbcnbiaaDoorWLast
import Derived.Test.YtiddhaakbcnbiaaDoorWTab
import Derived.Test.YtiddhaakbcnbiaaDoorWFour
import Derived.Test.YtiddhaakbcnbiaaDoorWQPut
import Derived.Test.YtiddhaakbcnbiaaDoorWApart
import Derived.Test.YtiddhaakbcnbiaaDoorWArr
import Derived.Test.YtiddhaakbcnbiaaDoorWZeros
import Derived.Test.YtiddhaakbcnbiaaDoorWFoot
import Derived.Test.YtiddhaakbcnbiaaDoorWKept
import Derived.Test.YtiddhaakbcnbiaaDoorWShare
import Derived.Test.YtiddhaakbcnbiaaDoorWN
import Derived.Test.YtiddhaakbcnbiaaDoorWFootNe
import Derived.Test.YtiddhaakbcnbiaaDoorWAt
import Derived.Test.YtiddhaakbcnbiaaDoorWEqStruct
import Derived.Test.YtiddhaakbcnbiaaDoorWRepsOne
import Derived.Test.YtiddhaakbcnbiaaDoorWInv
import Derived.Test.YtiddhaakbcnbiaaDoorWInvWords
import Derived.Test.YtiddhaakbcnbiaaDoorWGuard
import Derived.Test.YtiddhaakbcnbiaaDoorWNEv
import Derived.Test.YtiddhaakbcnbiaaDoorWMore
namespace Go.Proofs.YtiddhaakbcnbiaaDoor.R4
open Go.Proofs.YtiddhaakbcnbiaaDoor.Giv Go.Proofs.YtiddhaakbcnbiaaDoor.TGiv Go.Proofs.YtiddhaakbcnbiaaDoor
open Go.RowKit Go.Proofs.YtiddhaakbcnbiaaDoorW.PrintWords Go.Proofs.YtiddhaakbcnbiaaDoorW.PrintLast Go.Proofs.YtiddhaakbcnbiaaDoorW.PrintMore
attribute [local go_sem] max2_int min2_int max_two min_two max_three min_three max_four min_four   -- for this text's walks alone
set_option linter.unusedVariables false
set_option linter.unusedSimpArgs false



def errW : Option Int → Value
  | none => .nilIface
  | some c => .iface 0 (.int .i64 c)
theorem errW_none : errW none = .nilIface := rfl
theorem errW_some (c : Int) : errW (some c) = .iface 0 (.int .i64 c) := rfl

theorem info5 : (Tryd.prog.info? 5).map (fun i => (i.zero, i.size, i.bytes)) = some (some (.int .u8 0), 1, 1) := by kernel_rfl
-- the values' own types

end Go.Proofs.YtiddhaakbcnbiaaDoor.R4
