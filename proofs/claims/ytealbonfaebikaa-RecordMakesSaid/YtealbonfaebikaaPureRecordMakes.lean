/- RecordMakes: the record of any byte, alone or answered, is what the document says. -/
import Derived.Test.YtealbonfaebikaaRecordMakesRecord
namespace Go.Proofs.Ytealbonfaebikaa.Pure
open Go.RowKit Go.Proofs.YtealbonfaebikaaW.PrintWords Go.Proofs.YtealbonfaebikaaW.PrintLast Go.Proofs.YtealbonfaebikaaW.PrintMore
open Go.Proofs.Ytealbonfaebikaa.PRecordMakes Go.Proofs.Ytealbonfaebikaa.Utf Go.Proofs.Ytealbonfaebikaa.Open Go.Proofs.Ytealbonfaebikaa.RecordMakesCode Go.Proofs.Ytealbonfaebikaa.RecordMakesRecord
set_option linter.unusedVariables false
theorem RecordMakes : calamuslaw33_RecordMakes.Pure := by
 intro a b c e ha hb hc he
 refine Ev.rounds (g := fun k => calamuslaw33_RecordMakes.f k a b c e) ?_
 have hc' : 0 ≤ c ∧ c ≤ 255 := by
  simp only [Lit.wf] at hc; have := hc
  simp [IntKind.min, IntKind.max, IntKind.signed, IntKind.bits] at this
  omega
 unfold calamuslaw33_RecordMakes.f
 simp only [record_Pressed.f, calamusref33_Pressed.f, Option.bind_some]
 refine evr ?_
 unfold record_Replied.f calamusref33_Replied.f
 simp only [Option.bind_some, rnum_is]
 have hn := num_le e
 have h1 : (strOfNums [c]).size = 1 := by rw [← bytes_len, one_byte c hc']; rfl
 have hg : (glueB [strOfNums [c], num e]).size ≤ 140737488355328 := by rw [glue_size]; simp [h1]; omega
 have eg : strOfNums [c] ++ num e = glueB [strOfNums [c], num e] := bytes_inj (by rw [bytes_append, bytes_glue]; simp)
 refine ev_bind (a := (2, a, b, glueB [strOfNums [c], num e])) (ev_bind (num_any e) ?_) ?_
 ·rw [glue_is _ (by simp) hg]
  exact Ev.now _
 ·rw [if_pos (by omega)]
  simp only [Option.bind_some, eg]
  exact evr (ev_bind lives_ (Ev.now _))
end Go.Proofs.Ytealbonfaebikaa.Pure
