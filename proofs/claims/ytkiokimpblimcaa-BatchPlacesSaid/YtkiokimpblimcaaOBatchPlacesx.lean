/- Of the law calamus/calamuslaw09.BatchPlaces: each function as a plain Lean function, with a proof that the call comes to it; the row. By wip/tpl/own_print.py. Conditions: none but the row's own. -/
import Derived.Test.YtkiokimpblimcaaOBatchPlacesx0
import Derived.Test.YtkiokimpblimcaaOBatchPlacesx1
import Derived.Test.YtkiokimpblimcaaOBatchPlacesx2
import Derived.Test.YtkiokimpblimcaaOBatchPlacesx3
import Derived.Test.YtkiokimpblimcaaOBatchPlacesx4
import Derived.Test.YtkiokimpblimcaaOBatchPlacesx5
import Derived.Test.YtkiokimpblimcaaOBatchPlacesx6
namespace Go.Proofs.Ytkiokimpblimcaa.PBatchPlaces
open Go.RowKit Go.Proofs.YtkiokimpblimcaaW.PrintWords Go.Proofs.YtkiokimpblimcaaW.PrintLast Go.Proofs.YtkiokimpblimcaaW.PrintMore
attribute [local go_sem] max2_int min2_int max_two min_two max_three min_three max_four min_four   -- for this text's walks alone
set_option linter.unusedVariables false
set_option linter.unusedSimpArgs false

end Go.Proofs.Ytkiokimpblimcaa.PBatchPlaces
