/- Of the law calamus/calamuslaw01.CodeWrites: each function as a plain Lean function, with a proof that the call comes to it; the row. By wip/tpl/own_print.py. Conditions: none but the row's own. -/
import Derived.Test.YtjobaaolohemgaaOCodeWritesx2
import Derived.Test.YtjobaaolohemgaaOCodeWritesx0
import Derived.Test.YtjobaaolohemgaaOpen
namespace Go.Proofs.Ytjobaaolohemgaa.PCodeWrites
open Go.RowKit Go.Proofs.YtjobaaolohemgaaW.PrintWords Go.Proofs.YtjobaaolohemgaaW.PrintLast Go.Proofs.YtjobaaolohemgaaW.PrintMore Go.Proofs.Ytjobaaolohemgaa.Open
set_option linter.unusedVariables false
/-- THE ONE PURE STATEMENT of calamuslaw01_CodeWrites. -/
def calamuslaw01_CodeWrites.PureUpto : Prop := ∀ (x0 : Int) (x1 : ByteArray) (x2 : List Int), bInt .i64 x0 → bStr x1 → (bSl 8 (bInt .i64)) x2 → x1.size ≤ 1048576 → x2.length ≤ 1048576 → ∃ k, calamuslaw01_CodeWrites.f k x0 x1 x2 = some true
end Go.Proofs.Ytjobaaolohemgaa.PCodeWrites
