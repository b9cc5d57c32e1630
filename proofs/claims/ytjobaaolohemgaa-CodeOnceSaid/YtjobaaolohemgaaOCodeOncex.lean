/- Of the law calamus/calamuslaw01.CodeOnce: each function as a plain Lean function, with a proof that the call comes to it; the row. By wip/tpl/own_print.py. Conditions: none but the row's own. -/
import Derived.Test.YtjobaaolohemgaaOCodeOncex0
import Derived.Test.YtjobaaolohemgaaOCodeOncex1
import Derived.Test.YtjobaaolohemgaaOCodeOncex2
import Derived.Test.YtjobaaolohemgaaOCodeOncex3
namespace Go.Proofs.Ytjobaaolohemgaa.PCodeOnce
open Go.RowKit Go.Proofs.YtjobaaolohemgaaW.PrintWords Go.Proofs.YtjobaaolohemgaaW.PrintLast Go.Proofs.YtjobaaolohemgaaW.PrintMore
attribute [local go_sem] max2_int min2_int max_two min_two max_three min_three max_four min_four   -- for this text's walks alone
set_option linter.unusedVariables false
set_option linter.unusedSimpArgs false

end Go.Proofs.Ytjobaaolohemgaa.PCodeOnce
