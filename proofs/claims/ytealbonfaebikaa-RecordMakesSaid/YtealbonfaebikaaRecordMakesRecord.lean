/- What the functions of layer 33, the program's and the document's, tell: records as bytes.
  Template: Ytealbonfaebikaa the seat's name, RecordMakes the law's key; in pieces. -/
import Derived.Test.YtealbonfaebikaaRecordMakesCode
namespace Go.Proofs.Ytealbonfaebikaa.RecordMakesRecord
open Go.RowKit Go.Proofs.YtealbonfaebikaaW.PrintWords Go.Proofs.YtealbonfaebikaaW.PrintLast Go.Proofs.YtealbonfaebikaaW.PrintMore
open Go.Proofs.Ytealbonfaebikaa.PRecordMakes Go.Proofs.Ytealbonfaebikaa.Utf Go.Proofs.Ytealbonfaebikaa.Open Go.Proofs.Ytealbonfaebikaa.RecordMakesCode
set_option linter.unusedVariables false
set_option linter.unusedSimpArgs false

theorem lives_ : Ev (fun k => calamuslaw33_lives.f k) true := Ev.of calamuslaw33_lives.mono (k := 30) (by decide +kernel)
/-- Texts as one. -/
def glueB (l : List ByteArray) : ByteArray := ⟨(l.map (·.data.toList)).flatten.toArray⟩
theorem join_flat (xs : List (List UInt8)) : Lib.join xs [] = xs.flatten := by
 cases xs with
 | nil => rfl
 | cons x r =>
  rw [Lib.join_cons]
  unfold Lib.joinTail
  simp
theorem data_bytes (s : ByteArray) : bytesOf s = s.data.toList.map (fun b => (b.toNat : Int)) := rfl
theorem bytes_glue (l : List ByteArray) : bytesOf (glueB l) = l.flatMap bytesOf := by
 rw [data_bytes]
 show List.map _ (List.flatten _).toArray.toList = _
 simp only [List.map_flatten, List.map_map, List.flatMap]
 congr 1
theorem glue_size (l : List ByteArray) : (glueB l).size = (l.map ByteArray.size).sum := by
 rw [← bytes_len, bytes_glue, List.length_flatMap]
 congr 1
 apply List.map_congr_left
 intro s _
 exact bytes_len s
theorem glue_is (l : List ByteArray) (hl : l.length ≤ 1000000) (hs : (glueB l).size ≤ 140737488355328) : record_glue.f l = some (glueB l) := by
 unfold record_glue.f strings_Join.f
 have e : (⟨#[]⟩ : ByteArray).data.toList = ([] : List UInt8) := rfl
 rw [e, join_flat]
 have hz : ((l.map (·.data.toList)).flatten).length ≤ 140737488355328 := by
  have : (glueB l).size = ((l.map (·.data.toList)).flatten).length := by unfold glueB; simp [ByteArray.size]
  omega
 rw [if_pos ⟨hl, hz⟩]
 rfl
theorem one_byte (b : Int) (hb : 0 ≤ b ∧ b ≤ 255) : bytesOf (strOfNums [b]) = [b] := bytes_nums (by simpa using hb)
end Go.Proofs.Ytealbonfaebikaa.RecordMakesRecord
