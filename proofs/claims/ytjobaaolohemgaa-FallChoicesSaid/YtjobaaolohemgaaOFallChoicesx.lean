/- Of the law calamus/calamuslaw32.FallChoices: each function as a plain Lean function, with a proof that the call comes to it; the row. By wip/tpl/own_print.py. Conditions: none but the row's own. -/
import Derived.Test.YtjobaaolohemgaaOFallChoicesx0
import Derived.Test.YtjobaaolohemgaaOFallChoicesx1
import Derived.Test.YtjobaaolohemgaaOFallChoicesx2
import Derived.Test.YtjobaaolohemgaaOFallChoicesx3
import Derived.Test.YtjobaaolohemgaaOFallChoicesx4
import Derived.Test.YtjobaaolohemgaaOFallChoicesx5
namespace Go.Proofs.Ytjobaaolohemgaa.PFallChoices
open Go.RowKit Go.Proofs.YtjobaaolohemgaaW.PrintWords Go.Proofs.YtjobaaolohemgaaW.PrintLast Go.Proofs.YtjobaaolohemgaaW.PrintMore
attribute [local go_sem] max2_int min2_int max_two min_two max_three min_three max_four min_four   -- for this text's walks alone
set_option linter.unusedVariables false
set_option linter.unusedSimpArgs false

end Go.Proofs.Ytjobaaolohemgaa.PFallChoices
