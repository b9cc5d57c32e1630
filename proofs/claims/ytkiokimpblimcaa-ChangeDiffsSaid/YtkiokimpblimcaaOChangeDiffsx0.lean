/- Of the law calamus/calamuslaw08.ChangeDiffs: what each function that it reaches tells, as a plain Lean function with a proof that the call comes to it; the row out of that. By a program of this repo (wip/tpl/own_print.py). Conditions: none but the row's own. -/
import Derived.Test.YtkiokimpblimcaaProg
import Derived.Below
import Derived.Deep.Draws
import Derived.Deep.AppendLies
import Derived.Maps.AppendAt
import Derived.OwnWalk
import Derived.Laws.BytesArg
import Derived.Laws.MakeOwn
import Derived.Laws.OwnMore
import Derived.Deep.OwnRows
import Derived.Tactics
import Derived.Lib.ConvBytes
import Derived.Laws.Slices
import Derived.WalkKit
import Derived.KernelRfl
import Derived.RowKit3
import Derived.Deep.LoopGhost
import Derived.Deep.QuietTactic
import Derived.BigQuiet
import Derived.WideLaws
import Derived.Deep.DeepCutAuto
import Derived.Deep.CutBlock
import Derived.Deep.RegionHeld3
import Derived.Laws.Rows
import Derived.Lib.AppendStr
import Derived.ArgAppend
import Derived.Laws.IdiomCopy
import Derived.OrdersHeld
import Derived.Laws.BitsLemmas
import Derived.RowKit
import Derived.Test.YtkiokimpblimcaaWWords
import Derived.Test.YtkiokimpblimcaaWLast
import Derived.Test.YtkiokimpblimcaaWTab
import Derived.Test.YtkiokimpblimcaaWFour
import Derived.Test.YtkiokimpblimcaaWQPut
import Derived.Test.YtkiokimpblimcaaWApart
import Derived.Test.YtkiokimpblimcaaWArr
import Derived.Test.YtkiokimpblimcaaWZeros
import Derived.Test.YtkiokimpblimcaaWFoot
import Derived.Test.YtkiokimpblimcaaWKept
import Derived.Test.YtkiokimpblimcaaWShare
import Derived.Test.YtkiokimpblimcaaWN
import Derived.Test.YtkiokimpblimcaaWFootNe
import Derived.Test.YtkiokimpblimcaaWAt
import Derived.Test.YtkiokimpblimcaaWEqStruct
import Derived.Test.YtkiokimpblimcaaWRepsOne
import Derived.Test.YtkiokimpblimcaaWInv
import Derived.Test.YtkiokimpblimcaaWInvWords
import Derived.Test.YtkiokimpblimcaaWGuard
import Derived.Test.YtkiokimpblimcaaWNEv
import Derived.Test.YtkiokimpblimcaaWMore
namespace Go.Proofs.Ytkiokimpblimcaa.PChangeDiffs
open Go.RowKit Go.Proofs.YtkiokimpblimcaaW.PrintWords Go.Proofs.YtkiokimpblimcaaW.PrintLast Go.Proofs.YtkiokimpblimcaaW.PrintMore
attribute [local go_sem] max2_int min2_int max_two min_two max_three min_three max_four min_four   -- for this text's walks alone
set_option linter.unusedVariables false
set_option linter.unusedSimpArgs false



def errW : Option Int → Value
  | none => .nilIface
  | some c => .iface 0 (.int .i64 c)
theorem errW_none : errW none = .nilIface := rfl
theorem errW_some (c : Int) : errW (some c) = .iface 0 (.int .i64 c) := rfl

theorem info3 : (Try.prog.info? 3).map (fun i => (i.zero, i.size, i.bytes)) = some (some (.int .i64 0), 1, 8) := by kernel_rfl
theorem info5 : (Try.prog.info? 5).map (fun i => (i.zero, i.size, i.bytes)) = some (some (.int .u8 0), 1, 1) := by kernel_rfl
theorem info9 : (Try.prog.info? 9).map (fun i => (i.zero, i.size, i.bytes)) = some (some (.string ⟨#[]⟩), 1, 16) := by kernel_rfl
-- the values' own types

end Go.Proofs.Ytkiokimpblimcaa.PChangeDiffs
