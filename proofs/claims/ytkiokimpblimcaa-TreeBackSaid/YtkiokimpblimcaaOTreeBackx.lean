/- Of the law calamus/calamuslaw11.TreeBack: each function as a plain Lean function, with a proof that the call comes to it; the row. By wip/tpl/own_print.py. Conditions: none but the row's own. -/
import Derived.Test.YtkiokimpblimcaaOTreeBackx0
import Derived.Test.YtkiokimpblimcaaOTreeBackx1
import Derived.Test.YtkiokimpblimcaaOTreeBackx2
import Derived.Test.YtkiokimpblimcaaOTreeBackx3
import Derived.Test.YtkiokimpblimcaaOTreeBackx4
import Derived.Test.YtkiokimpblimcaaOTreeBackx5
import Derived.Test.YtkiokimpblimcaaOTreeBackx6
import Derived.Test.YtkiokimpblimcaaOTreeBackx7
import Derived.Test.YtkiokimpblimcaaOTreeBackx8
import Derived.Test.YtkiokimpblimcaaOTreeBackx9
import Derived.Test.YtkiokimpblimcaaOTreeBackx10
namespace Go.Proofs.Ytkiokimpblimcaa.PTreeBack
open Go.RowKit Go.Proofs.YtkiokimpblimcaaW.PrintWords Go.Proofs.YtkiokimpblimcaaW.PrintLast Go.Proofs.YtkiokimpblimcaaW.PrintMore
attribute [local go_sem] max2_int min2_int max_two min_two max_three min_three max_four min_four   -- for this text's walks alone
set_option linter.unusedVariables false
set_option linter.unusedSimpArgs false

end Go.Proofs.Ytkiokimpblimcaa.PTreeBack
