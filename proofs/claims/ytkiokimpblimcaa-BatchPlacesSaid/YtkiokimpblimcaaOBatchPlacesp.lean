/- Of the law calamus/calamuslaw09.BatchPlaces: each function as a plain Lean function, with a proof that the call comes to it; the row. By wip/tpl/own_print.py. Conditions: none but the row's own. -/
import Derived.Test.YtkiokimpblimcaaOBatchPlacesx6
import Derived.Test.YtkiokimpblimcaaOBatchPlacesx0
import Derived.Test.YtkiokimpblimcaaOpen
namespace Go.Proofs.Ytkiokimpblimcaa.PBatchPlaces
open Go.RowKit Go.Proofs.YtkiokimpblimcaaW.PrintWords Go.Proofs.YtkiokimpblimcaaW.PrintLast Go.Proofs.YtkiokimpblimcaaW.PrintMore Go.Proofs.Ytkiokimpblimcaa.Open
set_option linter.unusedVariables false
def b24 (x : S24) : Prop := (bInt .i64) x.f0 ∧ bStr x.f1 ∧ bStr x.f2
/-- THE ONE PURE STATEMENT of calamuslaw09_BatchPlaces. -/
def calamuslaw09_BatchPlaces.Pure : Prop := ∀ (x0 : ByteArray) (x1 : List (S24)) (x2 : Int) (x3 : Int), bStr x0 → (bSl 40 b24) x1 → bInt .i64 x2 → bInt .i64 x3 → ∃ k, calamuslaw09_BatchPlaces.f k x0 x1 x2 x3 = some true
end Go.Proofs.Ytkiokimpblimcaa.PBatchPlaces
