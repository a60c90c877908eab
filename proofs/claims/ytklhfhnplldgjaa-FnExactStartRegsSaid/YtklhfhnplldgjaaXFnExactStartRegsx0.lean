/- Machine side of the law FnExactStartRegs: for each Go function that it reaches, a Lean function with the same answers and the proof that the call comes to them. Conditions: what the arguments lead to reads as the lists that each contract is told of. Some functions are told by hand, the others by the kit's print.py under wip/ext.py. -/
import Derived.Test.YtklhfhnplldgjaaProg
import Derived.Below
import Derived.Deep.Draws
import Derived.Deep.AppendLies
import Derived.Maps.AppendAt
import Derived.OwnWalk
import Derived.Laws.BytesArg
import Derived.Laws.MakeOwn
import Derived.Laws.OwnMore
import Derived.Deep.OwnRows
import Derived.Tactics
import Derived.Lib.ConvBytes
import Derived.Laws.Slices
import Derived.WalkKit
import Derived.KernelRfl
import Derived.RowKit3
import Derived.Deep.LoopGhost
import Derived.Deep.QuietTactic
import Derived.BigQuiet
import Derived.WideLaws
import Derived.Deep.DeepCutAuto
import Derived.Deep.CutBlock
import Derived.Deep.RegionHeld3
import Derived.Laws.Rows
import Derived.Lib.AppendStr
import Derived.ArgAppend
import Derived.Laws.IdiomCopy
import Derived.OrdersHeld
import Derived.Laws.BitsLemmas
import Derived.RowKit
import Derived.Test.YtklhfhnplldgjaaWWords
import Derived.Test.YtklhfhnplldgjaaWLast
import Derived.Test.YtklhfhnplldgjaaWTab
import Derived.Test.YtklhfhnplldgjaaWFour
import Derived.Test.YtklhfhnplldgjaaWQPut
import Derived.Test.YtklhfhnplldgjaaWApart
import Derived.Test.YtklhfhnplldgjaaWArr
import Derived.Test.YtklhfhnplldgjaaWZeros
import Derived.Test.YtklhfhnplldgjaaWFoot
import Derived.Test.YtklhfhnplldgjaaWKept
import Derived.Test.YtklhfhnplldgjaaWShare
import Derived.Test.YtklhfhnplldgjaaWN
import Derived.Test.YtklhfhnplldgjaaWFootNe
import Derived.Test.YtklhfhnplldgjaaWAt
import Derived.Test.YtklhfhnplldgjaaWEqStruct
import Derived.Test.YtklhfhnplldgjaaWRepsOne
import Derived.Test.YtklhfhnplldgjaaWInv
import Derived.Test.YtklhfhnplldgjaaWInvWords
import Derived.Test.YtklhfhnplldgjaaWGuard
import Derived.Test.YtklhfhnplldgjaaWNEv
import Derived.Test.YtklhfhnplldgjaaWMore
import Derived.Deep.RegionLaw
import Derived.Laws.CopyOwn
import Derived.Lib.SliceRun
import Derived.WalkSpells
namespace Go.Proofs.Ytklhfhnplldgjaa.XFnExactStartRegs
open Go.RowKit Go.Proofs.YtklhfhnplldgjaaW.PrintWords Go.Proofs.YtklhfhnplldgjaaW.PrintLast Go.Proofs.YtklhfhnplldgjaaW.PrintMore
attribute [local go_sem] max2_int min2_int max_two min_two max_three min_three max_four min_four   -- for this text's walks alone
set_option linter.unusedVariables false
set_option linter.unusedSimpArgs false



def errW : Option Int → Value
  | none => .nilIface
  | some c => .iface 0 (.int .i64 c)
theorem errW_none : errW none = .nilIface := rfl
theorem errW_some (c : Int) : errW (some c) = .iface 0 (.int .i64 c) := rfl

theorem info2 : (Try.prog.info? 2).map (fun i => (i.zero, i.size, i.bytes)) = some (some (.int .i64 0), 1, 8) := by kernel_rfl
-- the values' own types

end Go.Proofs.Ytklhfhnplldgjaa.XFnExactStartRegs
