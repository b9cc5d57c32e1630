/- Of the law calamus/calamuslaw11.TreeBack: each function as a plain Lean function, with a proof that the call comes to it; the row. By wip/tpl/own_print.py. Conditions: none but the row's own. -/
import Derived.Test.YtkiokimpblimcaaOTreeBackx10
import Derived.Test.YtkiokimpblimcaaOTreeBackx0
import Derived.Test.YtkiokimpblimcaaOpen
namespace Go.Proofs.Ytkiokimpblimcaa.PTreeBack
open Go.RowKit Go.Proofs.YtkiokimpblimcaaW.PrintWords Go.Proofs.YtkiokimpblimcaaW.PrintLast Go.Proofs.YtkiokimpblimcaaW.PrintMore Go.Proofs.Ytkiokimpblimcaa.Open
set_option linter.unusedVariables false
def b24 (x : S24) : Prop := (bInt .i64) x.f0 ∧ bStr x.f1 ∧ bStr x.f2
def b69 (x : S69) : Prop := (bInt .i64) x.f0 ∧ (bInt .i64) x.f1 ∧ (bInt .i64) x.f2 ∧ (bInt .i64) x.f3 ∧ b24 x.f4
/-- THE ONE PURE STATEMENT of calamuslaw11_TreeBack. -/
def calamuslaw11_TreeBack.Pure : Prop := ∀ (x0_0 : List (S69)) (x0_1 : Int) (x1 : Int), (bSl 72 b69) x0_0 → (bInt .i64) x0_1 → bInt .i64 x1 → ∃ k, calamuslaw11_TreeBack.f k x0_0 x0_1 x1 = some true
end Go.Proofs.Ytkiokimpblimcaa.PTreeBack
