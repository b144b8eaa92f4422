/- Contracts of functions of the program: each call returns what the plain function '.f' of that name says, wherever it says something. -/
import Derived.Test.YtkgomifdmpkaeaaDoorProg
import Derived.WalkLawsBesides
import Derived.Below
import Derived.Deep.Draws
import Derived.Deep.AppendLies
import Derived.Maps.AppendAt
import Derived.OwnWalk
import Derived.Laws.BytesArg
import Derived.Laws.MakeOwn
import Derived.Laws.OwnMore
import Derived.Deep.OwnRows
import Derived.Tactics
import Derived.Lib.ConvBytes
import Derived.Laws.Slices
import Derived.WalkKit
import Derived.KernelRfl
import Derived.RowKit3
import Derived.Deep.LoopGhost
import Derived.Deep.QuietTactic
import Derived.BigQuiet
import Derived.WideLaws
import Derived.Deep.DeepCutAuto
import Derived.Deep.CutBlock
import Derived.Deep.RegionHeld3
import Derived.Laws.Rows
import Derived.Lib.AppendStr
import Derived.ArgAppend
import Derived.Laws.IdiomCopy
import Derived.OrdersHeld
import Derived.Laws.BitsLemmas
import Derived.RowKit
import Derived.Test.YtkgomifdmpkaeaaDoorWWords
import Derived.Test.YtkgomifdmpkaeaaDoorWLast
import Derived.Test.YtkgomifdmpkaeaaDoorWTab
import Derived.Test.YtkgomifdmpkaeaaDoorWFour
import Derived.Test.YtkgomifdmpkaeaaDoorWQPut
import Derived.Test.YtkgomifdmpkaeaaDoorWApart
import Derived.Test.YtkgomifdmpkaeaaDoorWArr
import Derived.Test.YtkgomifdmpkaeaaDoorWZeros
import Derived.Test.YtkgomifdmpkaeaaDoorWFoot
import Derived.Test.YtkgomifdmpkaeaaDoorWKept
import Derived.Test.YtkgomifdmpkaeaaDoorWShare
import Derived.Test.YtkgomifdmpkaeaaDoorWN
import Derived.Test.YtkgomifdmpkaeaaDoorWFootNe
import Derived.Test.YtkgomifdmpkaeaaDoorWAt
import Derived.Test.YtkgomifdmpkaeaaDoorWEqStruct
import Derived.Test.YtkgomifdmpkaeaaDoorWRepsOne
import Derived.Test.YtkgomifdmpkaeaaDoorWInv
import Derived.Test.YtkgomifdmpkaeaaDoorWInvWords
import Derived.Test.YtkgomifdmpkaeaaDoorWGuard
import Derived.Test.YtkgomifdmpkaeaaDoorWNEv
import Derived.Test.YtkgomifdmpkaeaaDoorWMore
import Derived.Test.YtkgomifdmpkaeaaDoorLess
namespace Go.Proofs.YtkgomifdmpkaeaaDoor.Cmp
open Go.Proofs.YtkgomifdmpkaeaaDoor
open Go.RowKit Go.Proofs.YtkgomifdmpkaeaaDoorW.PrintWords Go.Proofs.YtkgomifdmpkaeaaDoorW.PrintLast Go.Proofs.YtkgomifdmpkaeaaDoorW.PrintMore
attribute [local go_sem] max2_int min2_int max_two min_two max_three min_three max_four min_four   -- for this text's walks alone
set_option linter.unusedVariables false
set_option linter.unusedSimpArgs false



def errW : Option Int → Value
  | none => .nilIface
  | some c => .iface 0 (.int .i64 c)
theorem errW_none : errW none = .nilIface := rfl
theorem errW_some (c : Int) : errW (some c) = .iface 0 (.int .i64 c) := rfl

theorem info9 : (Tryd.prog.info? 9).map (fun i => (i.zero, i.size, i.bytes)) = some (some (.string ⟨#[]⟩), 1, 16) := by kernel_rfl
-- the values' own types

end Go.Proofs.YtkgomifdmpkaeaaDoor.Cmp
