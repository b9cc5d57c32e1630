/- Of the law calamus/calamuslaw33.RecordWrites: each function as a plain Lean function, with a proof that the call comes to it; the row. By wip/tpl/own_print.py. Conditions: none but the row's own. -/
import Derived.Test.YtealbonfaebikaaORecordWritesx7
import Derived.Test.YtealbonfaebikaaORecordWritesx0
import Derived.Test.YtealbonfaebikaaOpen
namespace Go.Proofs.Ytealbonfaebikaa.PRecordWrites
open Go.RowKit Go.Proofs.YtealbonfaebikaaW.PrintWords Go.Proofs.YtealbonfaebikaaW.PrintLast Go.Proofs.YtealbonfaebikaaW.PrintMore Go.Proofs.Ytealbonfaebikaa.Open
set_option linter.unusedVariables false
/-- THE ONE PURE STATEMENT of calamuslaw33_RecordWrites. -/
def calamuslaw33_RecordWrites.Pure : Prop := ∀ (x0_0 : Int) (x0_1 : Int) (x0_2 : Int) (x0_3 : ByteArray), (bInt .i64) x0_0 → (bInt .i64) x0_1 → (bInt .i64) x0_2 → bStr x0_3 → ∃ k, calamuslaw33_RecordWrites.f k x0_0 x0_1 x0_2 x0_3 = some true
end Go.Proofs.Ytealbonfaebikaa.PRecordWrites
