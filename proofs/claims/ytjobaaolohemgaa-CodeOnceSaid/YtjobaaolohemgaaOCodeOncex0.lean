/- Of the law calamus/calamuslaw01.CodeOnce: each function as a plain Lean function, with a proof that the call comes to it; the row. By wip/tpl/own_print.py. Conditions: none but the row's own. -/
import Derived.Test.YtjobaaolohemgaaProg
import Derived.Below
import Derived.Deep.Draws
import Derived.Deep.AppendLies
import Derived.Maps.AppendAt
import Derived.OwnWalk
import Derived.Laws.BytesArg
import Derived.Laws.MakeOwn
import Derived.Laws.OwnMore
import Derived.Deep.OwnRows
import Derived.Tactics
import Derived.Lib.ConvBytes
import Derived.Laws.Slices
import Derived.WalkKit
import Derived.KernelRfl
import Derived.RowKit3
import Derived.Deep.LoopGhost
import Derived.Deep.QuietTactic
import Derived.BigQuiet
import Derived.WideLaws
import Derived.Deep.DeepCutAuto
import Derived.Deep.CutBlock
import Derived.Deep.RegionHeld3
import Derived.Laws.Rows
import Derived.Lib.AppendStr
import Derived.ArgAppend
import Derived.Laws.IdiomCopy
import Derived.OrdersHeld
import Derived.Laws.BitsLemmas
import Derived.RowKit
import Derived.Test.YtjobaaolohemgaaOwn
import Derived.Test.YtjobaaolohemgaaWWords
import Derived.Test.YtjobaaolohemgaaWLast
import Derived.Test.YtjobaaolohemgaaWTab
import Derived.Test.YtjobaaolohemgaaWFour
import Derived.Test.YtjobaaolohemgaaWQPut
import Derived.Test.YtjobaaolohemgaaWApart
import Derived.Test.YtjobaaolohemgaaWArr
import Derived.Test.YtjobaaolohemgaaWZeros
import Derived.Test.YtjobaaolohemgaaWFoot
import Derived.Test.YtjobaaolohemgaaWKept
import Derived.Test.YtjobaaolohemgaaWShare
import Derived.Test.YtjobaaolohemgaaWN
import Derived.Test.YtjobaaolohemgaaWFootNe
import Derived.Test.YtjobaaolohemgaaWAt
import Derived.Test.YtjobaaolohemgaaWEqStruct
import Derived.Test.YtjobaaolohemgaaWRepsOne
import Derived.Test.YtjobaaolohemgaaWInv
import Derived.Test.YtjobaaolohemgaaWInvWords
import Derived.Test.YtjobaaolohemgaaWGuard
import Derived.Test.YtjobaaolohemgaaWNEv
import Derived.Test.YtjobaaolohemgaaWMore
namespace Go.Proofs.Ytjobaaolohemgaa.PCodeOnce
open Go.RowKit Go.Proofs.YtjobaaolohemgaaW.PrintWords Go.Proofs.YtjobaaolohemgaaW.PrintLast Go.Proofs.YtjobaaolohemgaaW.PrintMore
attribute [local go_sem] max2_int min2_int max_two min_two max_three min_three max_four min_four   -- for this text's walks alone
set_option linter.unusedVariables false
set_option linter.unusedSimpArgs false



def errW : Option Int → Value
 | none => .nilIface
 | some c => .iface 0 (.int .i64 c)
theorem errW_none : errW none = .nilIface := rfl
theorem errW_some (c : Int) : errW (some c) = .iface 0 (.int .i64 c) := rfl

theorem info3 : (Try.prog.info? 3).map (fun i => (i.zero, i.size, i.bytes)) = some (some (.int .i64 0), 1, 8) := by kernel_rfl
theorem info5 : (Try.prog.info? 5).map (fun i => (i.zero, i.size, i.bytes)) = some (some (.int .u8 0), 1, 1) := by kernel_rfl
-- the values' own types

end Go.Proofs.Ytjobaaolohemgaa.PCodeOnce
