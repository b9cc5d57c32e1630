/- Of the law calamus/calamuslaw11.TreeAdds: each function as a plain Lean function, with a proof that the call comes to it; the row. By wip/tpl/own_print.py. Conditions: none but the row's own. -/
import Derived.Test.YtkiokimpblimcaaOTreeAddsx11
import Derived.Test.YtkiokimpblimcaaOTreeAddsx0
import Derived.Test.YtkiokimpblimcaaOpen
namespace Go.Proofs.Ytkiokimpblimcaa.PTreeAdds
open Go.RowKit Go.Proofs.YtkiokimpblimcaaW.PrintWords Go.Proofs.YtkiokimpblimcaaW.PrintLast Go.Proofs.YtkiokimpblimcaaW.PrintMore Go.Proofs.Ytkiokimpblimcaa.Open
set_option linter.unusedVariables false
def b24 (x : S24) : Prop := (bInt .i64) x.f0 ∧ bStr x.f1 ∧ bStr x.f2
def b69 (x : S69) : Prop := (bInt .i64) x.f0 ∧ (bInt .i64) x.f1 ∧ (bInt .i64) x.f2 ∧ (bInt .i64) x.f3 ∧ b24 x.f4
/-- THE ONE PURE STATEMENT of calamuslaw11_TreeAdds. -/
def calamuslaw11_TreeAdds.Pure : Prop := ∀ (x0_0 : List (S69)) (x0_1 : Int) (x1_0 : Int) (x1_1 : ByteArray) (x1_2 : ByteArray) (x2_0 : Int) (x2_1 : Int) (x3_0 : List (S69)) (x3_1 : Int), (bSl 72 b69) x0_0 → (bInt .i64) x0_1 → (bInt .i64) x1_0 → bStr x1_1 → bStr x1_2 → bInt .i64 x2_0 → bInt .i64 x2_1 → (bSl 72 b69) x3_0 → (bInt .i64) x3_1 → ∃ k, calamuslaw11_TreeAdds.f k x0_0 x0_1 x1_0 x1_1 x1_2 x2_0 x2_1 x3_0 x3_1 = some true
end Go.Proofs.Ytkiokimpblimcaa.PTreeAdds
