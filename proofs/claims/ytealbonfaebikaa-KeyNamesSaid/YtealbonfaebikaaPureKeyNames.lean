/- KeyNames: whether anything is a key, or a sign, and its name, is as the document says. -/
import Derived.Test.YtealbonfaebikaaKeyNamesKey
namespace Go.Proofs.Ytealbonfaebikaa.Pure
open Go.RowKit Go.Proofs.YtealbonfaebikaaW.PrintWords Go.Proofs.YtealbonfaebikaaW.PrintLast Go.Proofs.YtealbonfaebikaaW.PrintMore
open Go.Proofs.Ytealbonfaebikaa.PKeyNames Go.Proofs.Ytealbonfaebikaa.Utf Go.Proofs.Ytealbonfaebikaa.Open Go.Proofs.Ytealbonfaebikaa.KeyNamesUtf Go.Proofs.Ytealbonfaebikaa.KeyNamesKey
set_option linter.unusedVariables false
theorem KeyNames : calamuslaw13_KeyNames.Pure := by
 intro s hs
 refine Ev.rounds (g := fun k => calamuslaw13_KeyNames.f k s) ?_
 unfold calamuslaw13_KeyNames.f
 refine ev_bind (right_is s hs) (ev_bind (rright_is s) (ev_pos (by simp) (ev_bind (sign_is s hs) (ev_bind (rsign_is s) (ev_pos (by simp) ?_)))))
 exact ev_bind (name_is s hs) (ev_bind (rname_is s) (evr (ev_bind lives_ (Ev.now _))))
end Go.Proofs.Ytealbonfaebikaa.Pure
