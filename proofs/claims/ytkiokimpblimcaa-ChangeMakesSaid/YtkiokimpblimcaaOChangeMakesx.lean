/- Of the law calamus/calamuslaw08.ChangeMakes: what each function that it reaches tells, as a plain Lean function with a proof that the call comes to it; the row out of that. By a program of this repo (wip/tpl/own_print.py). Conditions: none but the row's own. -/
import Derived.Test.YtkiokimpblimcaaOChangeMakesx0
import Derived.Test.YtkiokimpblimcaaOChangeMakesx1
import Derived.Test.YtkiokimpblimcaaOChangeMakesx2
import Derived.Test.YtkiokimpblimcaaOChangeMakesx3
import Derived.Test.YtkiokimpblimcaaOChangeMakesx4
import Derived.Test.YtkiokimpblimcaaOChangeMakesx5
import Derived.Test.YtkiokimpblimcaaOChangeMakesx6
namespace Go.Proofs.Ytkiokimpblimcaa.PChangeMakes
open Go.RowKit Go.Proofs.YtkiokimpblimcaaW.PrintWords Go.Proofs.YtkiokimpblimcaaW.PrintLast Go.Proofs.YtkiokimpblimcaaW.PrintMore
attribute [local go_sem] max2_int min2_int max_two min_two max_three min_three max_four min_four   -- for this text's walks alone
set_option linter.unusedVariables false
set_option linter.unusedSimpArgs false

end Go.Proofs.Ytkiokimpblimcaa.PChangeMakes
