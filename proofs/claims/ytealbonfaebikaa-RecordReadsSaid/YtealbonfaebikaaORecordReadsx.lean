/- Of the law calamus/calamuslaw33.RecordReads: each function as a plain Lean function, with a proof that the call comes to it; the row. By wip/tpl/own_print.py. Conditions: none but the row's own. -/
import Derived.Test.YtealbonfaebikaaORecordReadsx0
import Derived.Test.YtealbonfaebikaaORecordReadsx1
import Derived.Test.YtealbonfaebikaaORecordReadsx2
import Derived.Test.YtealbonfaebikaaORecordReadsx3
import Derived.Test.YtealbonfaebikaaORecordReadsx4
import Derived.Test.YtealbonfaebikaaORecordReadsx5
import Derived.Test.YtealbonfaebikaaORecordReadsx6
import Derived.Test.YtealbonfaebikaaORecordReadsx7
import Derived.Test.YtealbonfaebikaaORecordReadsx8
namespace Go.Proofs.Ytealbonfaebikaa.PRecordReads
open Go.RowKit Go.Proofs.YtealbonfaebikaaW.PrintWords Go.Proofs.YtealbonfaebikaaW.PrintLast Go.Proofs.YtealbonfaebikaaW.PrintMore
attribute [local go_sem] max2_int min2_int max_two min_two max_three min_three max_four min_four   -- for this text's walks alone
set_option linter.unusedVariables false
set_option linter.unusedSimpArgs false

end Go.Proofs.Ytealbonfaebikaa.PRecordReads
