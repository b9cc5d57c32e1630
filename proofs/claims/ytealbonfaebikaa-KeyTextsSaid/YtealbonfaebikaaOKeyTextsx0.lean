/- Of the law calamus/calamuslaw13.KeyTexts: each function as a plain Lean function, with a proof that the call comes to it; the row. By wip/tpl/own_print.py. Conditions: none but the row's own. -/
import Derived.Test.YtealbonfaebikaaProg
import Derived.Below
import Derived.Deep.Draws
import Derived.Deep.AppendLies
import Derived.Maps.AppendAt
import Derived.OwnWalk
import Derived.Laws.BytesArg
import Derived.Laws.MakeOwn
import Derived.Laws.OwnMore
import Derived.Deep.OwnRows
import Derived.Tactics
import Derived.Lib.ConvBytes
import Derived.Laws.Slices
import Derived.WalkKit
import Derived.KernelRfl
import Derived.RowKit3
import Derived.Deep.LoopGhost
import Derived.Deep.QuietTactic
import Derived.BigQuiet
import Derived.WideLaws
import Derived.Deep.DeepCutAuto
import Derived.Deep.CutBlock
import Derived.Deep.RegionHeld3
import Derived.Laws.Rows
import Derived.Lib.AppendStr
import Derived.ArgAppend
import Derived.Laws.IdiomCopy
import Derived.OrdersHeld
import Derived.Laws.BitsLemmas
import Derived.RowKit
import Derived.Test.YtealbonfaebikaaOwn
import Derived.Shelf.Strings.OnBuilder
import Derived.MapKept
import Derived.Lib.OthersKept
import Derived.Shelf.Small.Wraps
import Derived.Maps.RangeRun
import Derived.Shelf.Strings.OnBuilder
import Derived.Test.YtealbonfaebikaaWWords
import Derived.Test.YtealbonfaebikaaWLast
import Derived.Test.YtealbonfaebikaaWTab
import Derived.Test.YtealbonfaebikaaWFour
import Derived.Test.YtealbonfaebikaaWQPut
import Derived.Test.YtealbonfaebikaaWApart
import Derived.Test.YtealbonfaebikaaWArr
import Derived.Test.YtealbonfaebikaaWZeros
import Derived.Test.YtealbonfaebikaaWFoot
import Derived.Test.YtealbonfaebikaaWKept
import Derived.Test.YtealbonfaebikaaWShare
import Derived.Test.YtealbonfaebikaaWN
import Derived.Test.YtealbonfaebikaaWFootNe
import Derived.Test.YtealbonfaebikaaWAt
import Derived.Test.YtealbonfaebikaaWEqStruct
import Derived.Test.YtealbonfaebikaaWRepsOne
import Derived.Test.YtealbonfaebikaaWInv
import Derived.Test.YtealbonfaebikaaWInvWords
import Derived.Test.YtealbonfaebikaaWGuard
import Derived.Test.YtealbonfaebikaaWNEv
import Derived.Test.YtealbonfaebikaaWMore
namespace Go.Proofs.Ytealbonfaebikaa.PKeyTexts
open Go.RowKit Go.Proofs.YtealbonfaebikaaW.PrintWords Go.Proofs.YtealbonfaebikaaW.PrintLast Go.Proofs.YtealbonfaebikaaW.PrintMore
attribute [local go_sem] max2_int min2_int max_two min_two max_three min_three max_four min_four   -- for this text's walks alone
set_option linter.unusedVariables false
set_option linter.unusedSimpArgs false



def errW : Option Int → Value
 | none => .nilIface
 | some c => .iface 0 (.int .i64 c)
theorem errW_none : errW none = .nilIface := rfl
theorem errW_some (c : Int) : errW (some c) = .iface 0 (.int .i64 c) := rfl

theorem info3 : (Try.prog.info? 3).map (fun i => (i.zero, i.size, i.bytes)) = some (some (.int .i64 0), 1, 8) := by kernel_rfl
theorem info5 : (Try.prog.info? 5).map (fun i => (i.zero, i.size, i.bytes)) = some (some (.int .u8 0), 1, 1) := by kernel_rfl
theorem info9 : (Try.prog.info? 9).map (fun i => (i.zero, i.size, i.bytes)) = some (some (.string ⟨#[]⟩), 1, 16) := by kernel_rfl
-- the values' own types

end Go.Proofs.Ytealbonfaebikaa.PKeyTexts
