/- Of the law calamus/calamuslaw11.TreeTexts: each function as a plain Lean function, with a proof that the call comes to it; the row. By wip/tpl/own_print.py. Conditions: none but the row's own. -/
import Derived.Test.YtkiokimpblimcaaOTreeTextsx0
import Derived.Test.YtkiokimpblimcaaOTreeTextsx1
import Derived.Test.YtkiokimpblimcaaOTreeTextsx2
import Derived.Test.YtkiokimpblimcaaOTreeTextsx3
import Derived.Test.YtkiokimpblimcaaOTreeTextsx4
import Derived.Test.YtkiokimpblimcaaOTreeTextsx5
import Derived.Test.YtkiokimpblimcaaOTreeTextsx6
import Derived.Test.YtkiokimpblimcaaOTreeTextsx7
import Derived.Test.YtkiokimpblimcaaOTreeTextsx8
import Derived.Test.YtkiokimpblimcaaOTreeTextsx9
import Derived.Test.YtkiokimpblimcaaOTreeTextsx10
import Derived.Test.YtkiokimpblimcaaOTreeTextsx11
import Derived.Test.YtkiokimpblimcaaOTreeTextsx12
import Derived.Test.YtkiokimpblimcaaOTreeTextsx13
import Derived.Test.YtkiokimpblimcaaOTreeTextsx14
import Derived.Test.YtkiokimpblimcaaOTreeTextsx15
namespace Go.Proofs.Ytkiokimpblimcaa.PTreeTexts
open Go.RowKit Go.Proofs.YtkiokimpblimcaaW.PrintWords Go.Proofs.YtkiokimpblimcaaW.PrintLast Go.Proofs.YtkiokimpblimcaaW.PrintMore
attribute [local go_sem] max2_int min2_int max_two min_two max_three min_three max_four min_four   -- for this text's walks alone
set_option linter.unusedVariables false
set_option linter.unusedSimpArgs false

end Go.Proofs.Ytkiokimpblimcaa.PTreeTexts
