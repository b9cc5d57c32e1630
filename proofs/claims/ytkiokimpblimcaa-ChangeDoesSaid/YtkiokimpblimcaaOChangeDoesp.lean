/- Of the law calamus/calamuslaw08.ChangeDoes: what each function that it reaches tells, as a plain Lean function with a proof that the call comes to it; the row out of that. By a program of this repo (wip/tpl/own_print.py). Conditions: none but the row's own. -/
import Derived.Test.YtkiokimpblimcaaOChangeDoesx7
import Derived.Test.YtkiokimpblimcaaOChangeDoesx0
import Derived.Test.YtkiokimpblimcaaOpen
namespace Go.Proofs.Ytkiokimpblimcaa.PChangeDoes
open Go.RowKit Go.Proofs.YtkiokimpblimcaaW.PrintWords Go.Proofs.YtkiokimpblimcaaW.PrintLast Go.Proofs.YtkiokimpblimcaaW.PrintMore Go.Proofs.Ytkiokimpblimcaa.Open
set_option linter.unusedVariables false
def b24 (x : S24) : Prop := (bInt .i64) x.f0 ∧ bStr x.f1 ∧ bStr x.f2
/-- THE ONE PURE STATEMENT of calamuslaw08_ChangeDoes. -/
def calamuslaw08_ChangeDoes.Pure : Prop := ∀ (x0 : ByteArray) (x1 : List (S24)), bStr x0 → (bSl 40 b24) x1 → ∃ k, calamuslaw08_ChangeDoes.f k x0 x1 = some true
end Go.Proofs.Ytkiokimpblimcaa.PChangeDoes
