/- Of the law calamus/calamuslaw13.KeyTexts: each function as a plain Lean function, with a proof that the call comes to it; the row. By wip/tpl/own_print.py. Conditions: none but the row's own. -/
import Derived.Test.YtealbonfaebikaaOKeyTextsx0
import Derived.Test.YtealbonfaebikaaOKeyTextsx1
import Derived.Test.YtealbonfaebikaaOKeyTextsx2
import Derived.Test.YtealbonfaebikaaOKeyTextsx3
import Derived.Test.YtealbonfaebikaaOKeyTextsx4
import Derived.Test.YtealbonfaebikaaOKeyTextsx5
import Derived.Test.YtealbonfaebikaaOKeyTextsx6
import Derived.Test.YtealbonfaebikaaOKeyTextsx7
namespace Go.Proofs.Ytealbonfaebikaa.PKeyTexts
open Go.RowKit Go.Proofs.YtealbonfaebikaaW.PrintWords Go.Proofs.YtealbonfaebikaaW.PrintLast Go.Proofs.YtealbonfaebikaaW.PrintMore
attribute [local go_sem] max2_int min2_int max_two min_two max_three min_three max_four min_four   -- for this text's walks alone
set_option linter.unusedVariables false
set_option linter.unusedSimpArgs false

end Go.Proofs.Ytealbonfaebikaa.PKeyTexts
