/- Of the law calamus/calamuslaw32.FallAll: each function as a plain Lean function, with a proof that the call comes to it; the row. By wip/tpl/own_print.py. Conditions: none but the row's own. -/
import Derived.Test.YtjobaaolohemgaaOFallAllx3
import Derived.Test.YtjobaaolohemgaaOFallAllx0
import Derived.Test.YtjobaaolohemgaaOpen
namespace Go.Proofs.Ytjobaaolohemgaa.PFallAll
open Go.RowKit Go.Proofs.YtjobaaolohemgaaW.PrintWords Go.Proofs.YtjobaaolohemgaaW.PrintLast Go.Proofs.YtjobaaolohemgaaW.PrintMore Go.Proofs.Ytjobaaolohemgaa.Open
set_option linter.unusedVariables false
/-- THE ONE PURE STATEMENT of calamuslaw32_FallAll. -/
def calamuslaw32_FallAll.Pure : Prop := ∀ (x0_0 : Int) (x0_1 : List Int), (bInt .i64) x0_0 → (bSl 8 (bInt .i64)) x0_1 → ∃ k, calamuslaw32_FallAll.f k x0_0 x0_1 = some true
end Go.Proofs.Ytjobaaolohemgaa.PFallAll
