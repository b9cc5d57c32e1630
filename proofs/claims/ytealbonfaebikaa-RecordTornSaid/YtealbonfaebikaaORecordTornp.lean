/- Of the law calamus/calamuslaw33.RecordTorn: each function as a plain Lean function, with a proof that the call comes to it; the row. By wip/tpl/own_print.py. Conditions: none but the row's own. -/
import Derived.Test.YtealbonfaebikaaORecordTornx7
import Derived.Test.YtealbonfaebikaaORecordTornx0
import Derived.Test.YtealbonfaebikaaOpen
namespace Go.Proofs.Ytealbonfaebikaa.PRecordTorn
open Go.RowKit Go.Proofs.YtealbonfaebikaaW.PrintWords Go.Proofs.YtealbonfaebikaaW.PrintLast Go.Proofs.YtealbonfaebikaaW.PrintMore Go.Proofs.Ytealbonfaebikaa.Open
set_option linter.unusedVariables false
def b26 (x : S26) : Prop := (bInt .i64) x.f0 ∧ (bInt .i64) x.f1 ∧ (bInt .i64) x.f2 ∧ bStr x.f3
/-- THE ONE PURE STATEMENT of calamuslaw33_RecordTorn. -/
def calamuslaw33_RecordTorn.Pure : Prop := ∀ (x0 : List (S26)) (x1 : Int) (x2 : Int), (bSl 40 b26) x0 → bInt .i64 x1 → bInt .i64 x2 → ∃ k, calamuslaw33_RecordTorn.f k x0 x1 x2 = some true
end Go.Proofs.Ytealbonfaebikaa.PRecordTorn
