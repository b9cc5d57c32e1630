/- Of the law calamus/calamuslaw32.FallChoices: each function as a plain Lean function, with a proof that the call comes to it; the row. By wip/tpl/own_print.py. Conditions: none but the row's own. -/
import Derived.Test.YtjobaaolohemgaaOFallChoicesx5
import Derived.Test.YtjobaaolohemgaaOFallChoicesx0
import Derived.Test.YtjobaaolohemgaaOpen
namespace Go.Proofs.Ytjobaaolohemgaa.PFallChoices
open Go.RowKit Go.Proofs.YtjobaaolohemgaaW.PrintWords Go.Proofs.YtjobaaolohemgaaW.PrintLast Go.Proofs.YtjobaaolohemgaaW.PrintMore Go.Proofs.Ytjobaaolohemgaa.Open
set_option linter.unusedVariables false
/-- THE ONE PURE STATEMENT of calamuslaw32_FallChoices. -/
def calamuslaw32_FallChoices.Pure : Prop := ∀ (x0_0 : Int) (x0_1 : List Int) (x1_0 : Int) (x1_1 : List Int) (x2 : Int), (bInt .i64) x0_0 → (bSl 8 (bInt .i64)) x0_1 → (bInt .i64) x1_0 → (bSl 8 (bInt .i64)) x1_1 → bInt .i64 x2 → ∃ k, calamuslaw32_FallChoices.f k x0_0 x0_1 x1_0 x1_1 x2 = some true
end Go.Proofs.Ytjobaaolohemgaa.PFallChoices
