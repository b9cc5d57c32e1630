/- Of the law calamus/calamuslaw01.CodeBack: each function as a plain Lean function, with a proof that the call comes to it; the row. By wip/tpl/own_print.py. Conditions: none but the row's own. -/
import Derived.Test.YtjobaaolohemgaaOCodeBackx3
import Derived.Test.YtjobaaolohemgaaOCodeBackx0
import Derived.Test.YtjobaaolohemgaaOpen
namespace Go.Proofs.Ytjobaaolohemgaa.PCodeBack
open Go.RowKit Go.Proofs.YtjobaaolohemgaaW.PrintWords Go.Proofs.YtjobaaolohemgaaW.PrintLast Go.Proofs.YtjobaaolohemgaaW.PrintMore Go.Proofs.Ytjobaaolohemgaa.Open
set_option linter.unusedVariables false
/-- THE ONE PURE STATEMENT of calamuslaw01_CodeBack. -/
def calamuslaw01_CodeBack.PureUpto : Prop := ∀ (x0 : Int) (x1 : ByteArray) (x2 : List Int) (x3 : ByteArray), bInt .i64 x0 → bStr x1 → (bSl 8 (bInt .i64)) x2 → bStr x3 → x1.size ≤ 1048576 → x2.length ≤ 1048576 → x3.size ≤ 1048576 → ∃ k, calamuslaw01_CodeBack.f k x0 x1 x2 x3 = some true
end Go.Proofs.Ytjobaaolohemgaa.PCodeBack
