/- Of the law calamus/calamuslaw11.TreeKeeps: each function as a plain Lean function, with a proof that the call comes to it; the row. By wip/tpl/own_print.py. Conditions: none but the row's own. -/
import Derived.Test.YtkiokimpblimcaaOTreeKeepsx0
import Derived.Test.YtkiokimpblimcaaOTreeKeepsx1
import Derived.Test.YtkiokimpblimcaaOTreeKeepsx2
import Derived.Test.YtkiokimpblimcaaOTreeKeepsx3
import Derived.Test.YtkiokimpblimcaaOTreeKeepsx4
import Derived.Test.YtkiokimpblimcaaOTreeKeepsx5
import Derived.Test.YtkiokimpblimcaaOTreeKeepsx6
import Derived.Test.YtkiokimpblimcaaOTreeKeepsx7
import Derived.Test.YtkiokimpblimcaaOTreeKeepsx8
import Derived.Test.YtkiokimpblimcaaOTreeKeepsx9
import Derived.Test.YtkiokimpblimcaaOTreeKeepsx10
import Derived.Test.YtkiokimpblimcaaOTreeKeepsx11
namespace Go.Proofs.Ytkiokimpblimcaa.PTreeKeeps
open Go.RowKit Go.Proofs.YtkiokimpblimcaaW.PrintWords Go.Proofs.YtkiokimpblimcaaW.PrintLast Go.Proofs.YtkiokimpblimcaaW.PrintMore
attribute [local go_sem] max2_int min2_int max_two min_two max_three min_three max_four min_four   -- for this text's walks alone
set_option linter.unusedVariables false
set_option linter.unusedSimpArgs false

end Go.Proofs.Ytkiokimpblimcaa.PTreeKeeps
