/- Of the law calamus/calamuslaw33.RecordBack: each function as a plain Lean function, with a proof that the call comes to it; the row. By wip/tpl/own_print.py. Conditions: none but the row's own. -/
import Derived.Test.YtealbonfaebikaaORecordBackx5
import Derived.Test.YtealbonfaebikaaORecordBackx0
import Derived.Test.YtealbonfaebikaaOpen
namespace Go.Proofs.Ytealbonfaebikaa.PRecordBack
open Go.RowKit Go.Proofs.YtealbonfaebikaaW.PrintWords Go.Proofs.YtealbonfaebikaaW.PrintLast Go.Proofs.YtealbonfaebikaaW.PrintMore Go.Proofs.Ytealbonfaebikaa.Open
set_option linter.unusedVariables false
/-- THE ONE PURE STATEMENT of calamuslaw33_RecordBack. -/
def calamuslaw33_RecordBack.Pure : Prop := ∀ (x0_0 : Int) (x0_1 : Int) (x0_2 : Int) (x0_3 : ByteArray) (x1 : ByteArray), (bInt .i64) x0_0 → (bInt .i64) x0_1 → (bInt .i64) x0_2 → bStr x0_3 → bStr x1 → ∃ k, calamuslaw33_RecordBack.f k x0_0 x0_1 x0_2 x0_3 x1 = some true
end Go.Proofs.Ytealbonfaebikaa.PRecordBack
