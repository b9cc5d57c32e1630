/- RecordBack: what was written is read, whatever stands behind it. -/
import Derived.Test.YtealbonfaebikaaRecordBackRecord
namespace Go.Proofs.Ytealbonfaebikaa.Pure
open Go.RowKit Go.Proofs.YtealbonfaebikaaW.PrintWords Go.Proofs.YtealbonfaebikaaW.PrintLast Go.Proofs.YtealbonfaebikaaW.PrintMore
open Go.Proofs.Ytealbonfaebikaa.PRecordBack Go.Proofs.Ytealbonfaebikaa.Utf Go.Proofs.Ytealbonfaebikaa.Open Go.Proofs.Ytealbonfaebikaa.RecordBackCode Go.Proofs.Ytealbonfaebikaa.RecordBackRecord
set_option linter.unusedVariables false
theorem RecordBack : calamuslaw33_RecordBack.Pure := by
 intro k e s d b hk he hs hd hb
 refine Ev.rounds (g := fun n => calamuslaw33_RecordBack.f n k e s d b) ?_
 unfold calamuslaw33_RecordBack.f
 by_cases h : RR k e s d
 ·have q := bytes_yes h
  have hz := rec_size h
  have r := read_yes h b (by unfold bStr at hb; omega)
  have hd' := h.2.2.2
  generalize recB k e s d = R at q hz r
  have hb' : b.size ≤ 140737488351232 := hb
  refine ev_bind q (ev_neg ?_ (ev_pos (by omega) (ev_bind r ?_)))
  ·intro e0
   rw [toList_nil] at e0
   have := bytes_len R
   rw [e0] at this
   simp at this
   omega
  ·refine ev_pos (by simp) (ev_pos (by show 17 + (d.size : Int) = _; omega) (evr (ev_pos ?_ (ev_bind lives_ (Ev.now _)))))
   rw [wrap_id (by omega) (by omega)]
   omega
 ·refine ev_bind (bytes_no h) (evr ?_)
  rw [right_is, decide_eq_false h]
  simp only [Option.bind_some]
  exact ev_neg (by simp) (ev_bind lives_ (Ev.now _))
end Go.Proofs.Ytealbonfaebikaa.Pure
