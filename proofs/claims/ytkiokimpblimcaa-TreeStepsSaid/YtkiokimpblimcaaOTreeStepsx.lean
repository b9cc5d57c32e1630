/- Of the law calamus/calamuslaw11.TreeSteps: what each function that it reaches tells, as a plain Lean function with a proof that the call comes to it; the row out of that. By a program of this repo (wip/tpl/own_print.py). Conditions: none but the row's own. -/
import Derived.Test.YtkiokimpblimcaaOTreeStepsx0
import Derived.Test.YtkiokimpblimcaaOTreeStepsx1
import Derived.Test.YtkiokimpblimcaaOTreeStepsx2
import Derived.Test.YtkiokimpblimcaaOTreeStepsx3
import Derived.Test.YtkiokimpblimcaaOTreeStepsx4
import Derived.Test.YtkiokimpblimcaaOTreeStepsx5
import Derived.Test.YtkiokimpblimcaaOTreeStepsx6
import Derived.Test.YtkiokimpblimcaaOTreeStepsx7
import Derived.Test.YtkiokimpblimcaaOTreeStepsx8
import Derived.Test.YtkiokimpblimcaaOTreeStepsx9
import Derived.Test.YtkiokimpblimcaaOTreeStepsx10
import Derived.Test.YtkiokimpblimcaaOTreeStepsx11
namespace Go.Proofs.Ytkiokimpblimcaa.PTreeSteps
open Go.RowKit Go.Proofs.YtkiokimpblimcaaW.PrintWords Go.Proofs.YtkiokimpblimcaaW.PrintLast Go.Proofs.YtkiokimpblimcaaW.PrintMore
attribute [local go_sem] max2_int min2_int max_two min_two max_three min_three max_four min_four   -- for this text's walks alone
set_option linter.unusedVariables false
set_option linter.unusedSimpArgs false

end Go.Proofs.Ytkiokimpblimcaa.PTreeSteps
