/- Of the law calamus/calamuslaw11.TreeKeeps: each function as a plain Lean function, with a proof that the call comes to it; the row. By wip/tpl/own_print.py. Conditions: none but the row's own. -/
import Derived.Test.YtkiokimpblimcaaOTreeKeepsx11
import Derived.Test.YtkiokimpblimcaaOTreeKeepsx0
import Derived.Test.YtkiokimpblimcaaOpen
namespace Go.Proofs.Ytkiokimpblimcaa.PTreeKeeps
open Go.RowKit Go.Proofs.YtkiokimpblimcaaW.PrintWords Go.Proofs.YtkiokimpblimcaaW.PrintLast Go.Proofs.YtkiokimpblimcaaW.PrintMore Go.Proofs.Ytkiokimpblimcaa.Open
set_option linter.unusedVariables false
def b24 (x : S24) : Prop := (bInt .i64) x.f0 ∧ bStr x.f1 ∧ bStr x.f2
def b69 (x : S69) : Prop := (bInt .i64) x.f0 ∧ (bInt .i64) x.f1 ∧ (bInt .i64) x.f2 ∧ (bInt .i64) x.f3 ∧ b24 x.f4
/-- THE ONE PURE STATEMENT of calamuslaw11_TreeKeeps. -/
def calamuslaw11_TreeKeeps.Pure : Prop := ∀ (x0_0 : List (S69)) (x0_1 : Int) (x1 : ByteArray) (x2 : ByteArray), (bSl 72 b69) x0_0 → (bInt .i64) x0_1 → bStr x1 → bStr x2 → ∃ k, calamuslaw11_TreeKeeps.f k x0_0 x0_1 x1 x2 = some true
end Go.Proofs.Ytkiokimpblimcaa.PTreeKeeps
