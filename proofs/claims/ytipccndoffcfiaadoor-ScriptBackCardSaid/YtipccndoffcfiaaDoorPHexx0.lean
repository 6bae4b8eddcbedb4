-- Printed by wip/xprint.py (a program of this repo, round the kit's print.py)
import Derived.Test.YtipccndoffcfiaaDoorProg
import Derived.Below
import Derived.Deep.Draws
import Derived.Deep.AppendLies
import Derived.Maps.AppendAt
import Derived.OwnWalk
import Derived.Laws.BytesArg
import Derived.Laws.MakeOwn
import Derived.Laws.OwnMore
import Derived.Deep.OwnRows
import Derived.Tactics
import Derived.Lib.ConvBytes
import Derived.Laws.Slices
import Derived.WalkKit
import Derived.KernelRfl
import Derived.RowKit3
import Derived.Deep.LoopGhost
import Derived.Deep.QuietTactic
import Derived.BigQuiet
import Derived.WideLaws
import Derived.Deep.DeepCutAuto
import Derived.Deep.CutBlock
import Derived.Deep.RegionHeld3
import Derived.Laws.Rows
import Derived.Lib.AppendStr
import Derived.ArgAppend
import Derived.Laws.IdiomCopy
import Derived.OrdersHeld
import Derived.Laws.BitsLemmas
import Derived.RowKit
import Derived.WalkSpells
import Derived.Maps.Views
import Derived.Maps.OwnSet
import Derived.Maps.OwnOps
import Derived.Test.YtipccndoffcfiaaDoorShelf
import Derived.Test.YtipccndoffcfiaaDoorWWords
import Derived.Test.YtipccndoffcfiaaDoorWLast
import Derived.Test.YtipccndoffcfiaaDoorWTab
import Derived.Test.YtipccndoffcfiaaDoorWFour
import Derived.Test.YtipccndoffcfiaaDoorWQPut
import Derived.Test.YtipccndoffcfiaaDoorWApart
import Derived.Test.YtipccndoffcfiaaDoorWArr
import Derived.Test.YtipccndoffcfiaaDoorWZeros
import Derived.Test.YtipccndoffcfiaaDoorWFoot
import Derived.Test.YtipccndoffcfiaaDoorWKept
import Derived.Test.YtipccndoffcfiaaDoorWShare
import Derived.Test.YtipccndoffcfiaaDoorWN
import Derived.Test.YtipccndoffcfiaaDoorWFootNe
import Derived.Test.YtipccndoffcfiaaDoorWAt
import Derived.Test.YtipccndoffcfiaaDoorWEqStruct
import Derived.Test.YtipccndoffcfiaaDoorWRepsOne
import Derived.Test.YtipccndoffcfiaaDoorWInv
import Derived.Test.YtipccndoffcfiaaDoorWInvWords
import Derived.Test.YtipccndoffcfiaaDoorWGuard
import Derived.Test.YtipccndoffcfiaaDoorWNEv
import Derived.Test.YtipccndoffcfiaaDoorWMore
namespace Go.Proofs.YtipccndoffcfiaaDoor.PHex
open Go.RowKit Go.Proofs.YtipccndoffcfiaaDoorW.PrintWords Go.Proofs.YtipccndoffcfiaaDoorW.PrintLast Go.Proofs.YtipccndoffcfiaaDoorW.PrintMore
attribute [local go_sem] max2_int min2_int max_two min_two max_three min_three max_four min_four   -- for this text's walks alone
set_option linter.unusedVariables false
set_option linter.unusedSimpArgs false



def errW : Option Int → Value
  | none => .nilIface
  | some c => .iface 0 (.int .i64 c)
theorem errW_none : errW none = .nilIface := rfl
theorem errW_some (c : Int) : errW (some c) = .iface 0 (.int .i64 c) := rfl

theorem info5 : (Tryd.prog.info? 5).map (fun i => (i.zero, i.size, i.bytes)) = some (some (.int .u8 0), 1, 1) := by kernel_rfl
-- the values' own types

end Go.Proofs.YtipccndoffcfiaaDoor.PHex
