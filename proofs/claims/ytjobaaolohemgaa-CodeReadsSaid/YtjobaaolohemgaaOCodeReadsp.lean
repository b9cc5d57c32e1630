/- Of the law calamus/calamuslaw01.CodeReads: each function as a plain Lean function, with a proof that the call comes to it; the row. By wip/tpl/own_print.py. Conditions: none but the row's own. -/
import Derived.Test.YtjobaaolohemgaaOCodeReadsx4
import Derived.Test.YtjobaaolohemgaaOCodeReadsx0
import Derived.Test.YtjobaaolohemgaaOpen
namespace Go.Proofs.Ytjobaaolohemgaa.PCodeReads
open Go.RowKit Go.Proofs.YtjobaaolohemgaaW.PrintWords Go.Proofs.YtjobaaolohemgaaW.PrintLast Go.Proofs.YtjobaaolohemgaaW.PrintMore Go.Proofs.Ytjobaaolohemgaa.Open
set_option linter.unusedVariables false
def b36 (x : S36) : Prop := (bInt .i64) x.f0 ∧ (bInt .i64) x.f1
/-- THE ONE PURE STATEMENT of calamuslaw01_CodeReads. -/
def calamuslaw01_CodeReads.Pure : Prop := ∀ (x0 : ByteArray) (x1 : List (S36)), bStr x0 → (bSl 16 b36) x1 → ∃ k, calamuslaw01_CodeReads.f k x0 x1 = some true
end Go.Proofs.Ytjobaaolohemgaa.PCodeReads
