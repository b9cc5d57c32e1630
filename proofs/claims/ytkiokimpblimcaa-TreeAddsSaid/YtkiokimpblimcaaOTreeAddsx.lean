/- Of the law calamus/calamuslaw11.TreeAdds: each function as a plain Lean function, with a proof that the call comes to it; the row. By wip/tpl/own_print.py. Conditions: none but the row's own. -/
import Derived.Test.YtkiokimpblimcaaOTreeAddsx0
import Derived.Test.YtkiokimpblimcaaOTreeAddsx1
import Derived.Test.YtkiokimpblimcaaOTreeAddsx2
import Derived.Test.YtkiokimpblimcaaOTreeAddsx3
import Derived.Test.YtkiokimpblimcaaOTreeAddsx4
import Derived.Test.YtkiokimpblimcaaOTreeAddsx5
import Derived.Test.YtkiokimpblimcaaOTreeAddsx6
import Derived.Test.YtkiokimpblimcaaOTreeAddsx7
import Derived.Test.YtkiokimpblimcaaOTreeAddsx8
import Derived.Test.YtkiokimpblimcaaOTreeAddsx9
import Derived.Test.YtkiokimpblimcaaOTreeAddsx10
import Derived.Test.YtkiokimpblimcaaOTreeAddsx11
namespace Go.Proofs.Ytkiokimpblimcaa.PTreeAdds
open Go.RowKit Go.Proofs.YtkiokimpblimcaaW.PrintWords Go.Proofs.YtkiokimpblimcaaW.PrintLast Go.Proofs.YtkiokimpblimcaaW.PrintMore
attribute [local go_sem] max2_int min2_int max_two min_two max_three min_three max_four min_four   -- for this text's walks alone
set_option linter.unusedVariables false
set_option linter.unusedSimpArgs false

end Go.Proofs.Ytkiokimpblimcaa.PTreeAdds
