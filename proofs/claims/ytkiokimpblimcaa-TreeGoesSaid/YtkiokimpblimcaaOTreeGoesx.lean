/- Of the law calamus/calamuslaw11.TreeGoes: what each function that it reaches tells, as a plain Lean function with a proof that the call comes to it; the row out of that. By a program of this repo (wip/tpl/own_print.py). Conditions: none but the row's own. -/
import Derived.Test.YtkiokimpblimcaaOTreeGoesx0
import Derived.Test.YtkiokimpblimcaaOTreeGoesx1
import Derived.Test.YtkiokimpblimcaaOTreeGoesx2
import Derived.Test.YtkiokimpblimcaaOTreeGoesx3
import Derived.Test.YtkiokimpblimcaaOTreeGoesx4
import Derived.Test.YtkiokimpblimcaaOTreeGoesx5
import Derived.Test.YtkiokimpblimcaaOTreeGoesx6
import Derived.Test.YtkiokimpblimcaaOTreeGoesx7
import Derived.Test.YtkiokimpblimcaaOTreeGoesx8
import Derived.Test.YtkiokimpblimcaaOTreeGoesx9
import Derived.Test.YtkiokimpblimcaaOTreeGoesx10
import Derived.Test.YtkiokimpblimcaaOTreeGoesx11
import Derived.Test.YtkiokimpblimcaaOTreeGoesx12
import Derived.Test.YtkiokimpblimcaaOTreeGoesx13
import Derived.Test.YtkiokimpblimcaaOTreeGoesx14
namespace Go.Proofs.Ytkiokimpblimcaa.PTreeGoes
open Go.RowKit Go.Proofs.YtkiokimpblimcaaW.PrintWords Go.Proofs.YtkiokimpblimcaaW.PrintLast Go.Proofs.YtkiokimpblimcaaW.PrintMore
attribute [local go_sem] max2_int min2_int max_two min_two max_three min_three max_four min_four   -- for this text's walks alone
set_option linter.unusedVariables false
set_option linter.unusedSimpArgs false

end Go.Proofs.Ytkiokimpblimcaa.PTreeGoes
