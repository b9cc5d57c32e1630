/- Of the law calamus/calamuslaw33.RecordWrites: each function as a plain Lean function, with a proof that the call comes to it; the row. By wip/tpl/own_print.py. Conditions: none but the row's own. -/
import Derived.Test.YtealbonfaebikaaRows
import Derived.Test.YtealbonfaebikaaORecordWritesp
import Derived.Test.YtealbonfaebikaaPureRecordWrites
import Derived.WalkKit
import Derived.ProofKit
import Derived.OpenShut
import Derived.ShutString
import Derived.ChangeOld
import Derived.Below
import Derived.SizedLaws
import Derived.Test.YtealbonfaebikaaWSized
namespace Go.Proofs.Ytealbonfaebikaa.recordWrites
open Go.ChangeShapes Go.WideShapes Go.ChangeAt Go.RowKit Go.Proofs.Ytealbonfaebikaa.Open Go.Proofs.Ytealbonfaebikaa.PRecordWrites Go.Proofs.YtealbonfaebikaaW.PrintWords
open Go.ChangeMaps (open_string shut_string)
set_option linter.unusedVariables false
theorem own : ownKnob Try.prog.godebug = none := by kernel_rfl
theorem laidOut : laidOutB Try.prog = true := by kernel_rfl
set_option maxHeartbeats 1000000 in
set_option maxRecDepth 100000 in
theorem lifted (os : Os) (started : os.Started) (H : Type) (enc : TypeId × Value → H) :
    ReturnsInHanded {} Try.checked os 4 .any (Rows.recordWritesSpec.pre6 enc Try.prog Try.f4 Rows.recordWritesRow.domain false) (Rows.recordWritesSpec.post enc Try.prog Try.f4 false true false false) := by
  refine returnsInHanded_of_change_sized (C := Try.checked) own started (by kernel_rfl) Try.func4
    (ChangeSpec.witness6 (enc := enc) (C := Try.checked) false ⟨#[], #[.agg #[.int .i64 0, .int .i64 0, .int .i64 0, .string ByteArray.empty]], []⟩ 8 (by kernel_rfl) (by kernel_rfl) (by kernel_rfl) (by kernel_rfl)) ?_
  intro W base args ds gs before hval0 hW hcnd hsz0 _
  have hsz : (DataW.weightsEach Try.prog (Try.f4.params.toList ++ Rows.recordWritesSpec.plain.varTypes Try.prog) (ds ++ gs)).all (· ≤ reachBytes) = true := hsz0
  have hval : ∀ (j : Nat) t v, Try.f4.params[j]? = some t → args[j]? = some v → Value.okWide Try.prog W .any base t v := hval0
  have hW' := hW
  obtain ⟨p, q, hA0, hV, rfl, hfz, hnd⟩ := hW
  have hA : DataW.TrodAll enc Try.prog W 0 (fun _ => true) true Try.f4.params.toList args.toList ds p := hA0
  rw [Try.params4] at hA hval hsz
  obtain ⟨v0, vs0, d0, ds0, p0, q900, hargs, rfl, rfl, h0, r0⟩ := trodAll_cons hA
  obtain ⟨rfl, rfl, rfl⟩ := trodAll_nil r0
  obtain rfl : args = #[v0] := by cases args; simp_all
  obtain ⟨rfl, rfl⟩ := trodVars_none hV
  obtain ⟨q0, rfl, _⟩ := okWide_struct Try.underlying26 (hval 0 26 v0 rfl rfl)
  have k0 := h0
  have lt0 : ∀ x ∈ p0, x.block < W.heap.size := by obtain ⟨m, hm⟩ := k0; exact DataW.trod_lt m _ _ _ hm
  obtain ⟨m0, hm0⟩ := h0
  have hz0 := weights_arg hsz (j := 0) (t := 26) rfl rfl
  obtain ⟨xs0, n0, _, hx0, hlen0, hxl0, hf0⟩ := DataW.trod_struct Try.underlying26 (show DataW.trod enc Try.prog W 0 (fun _ => true) true m0 26 q0.toList = some _ from hm0)
  rw [show d0 = _ from congrArg Prod.fst hx0] at hz0
  have hcs0 : Try.prog.cellsOf 26 = 4 := by kernel_rfl
  obtain ⟨x0_0, K0_0, B0_0⟩ := opens_field Try.underlying26 0 _ rfl rfl (opens_int (P := Try.prog) (t := 3) Try.underlying3) (hf0 0 _ rfl) hxl0 hz0 (o := 0) (s := 1) rfl (by kernel_rfl)
  have e0_0 : (q0.toList.drop 0).take 1 = [.int .i64 x0_0] := K0_0
  obtain ⟨x0_1, K0_1, B0_1⟩ := opens_field Try.underlying26 1 _ rfl rfl (opens_int (P := Try.prog) (t := 3) Try.underlying3) (hf0 1 _ rfl) hxl0 hz0 (o := 1) (s := 1) rfl (by kernel_rfl)
  have e0_1 : (q0.toList.drop 1).take 1 = [.int .i64 x0_1] := K0_1
  obtain ⟨x0_2, K0_2, B0_2⟩ := opens_field Try.underlying26 2 _ rfl rfl (opens_int (P := Try.prog) (t := 3) Try.underlying3) (hf0 2 _ rfl) hxl0 hz0 (o := 2) (s := 1) rfl (by kernel_rfl)
  have e0_2 : (q0.toList.drop 2).take 1 = [.int .i64 x0_2] := K0_2
  obtain ⟨x0_3, K0_3, B0_3⟩ := opens_field Try.underlying26 3 _ rfl rfl (opens_string (P := Try.prog) (t := 9) Try.underlying9) (hf0 3 _ rfl) hxl0 hz0 (o := 3) (s := 1) rfl (by kernel_rfl)
  have e0_3 : (q0.toList.drop 3).take 1 = [.string x0_3] := K0_3
  have el0 : (q0.toList.drop 3).take 1 = q0.toList.drop 3 := List.take_of_length_le (by rw [List.length_drop, hlen0, hcs0] <;> decide)
  rw [el0] at e0_3
  obtain rfl : q0 = #[.int .i64 x0_0, .int .i64 x0_1, .int .i64 x0_2, .string x0_3] := Array.ext' (show q0.toList = [.int .i64 x0_0, .int .i64 x0_1, .int .i64 x0_2, .string x0_3] from (seg_ 1 (by simpa only [List.drop_drop, Nat.reduceAdd, List.drop_zero] using e0_0) (seg_ 1 (by simpa only [List.drop_drop, Nat.reduceAdd, List.drop_zero] using e0_1) (seg_ 1 (by simpa only [List.drop_drop, Nat.reduceAdd, List.drop_zero] using e0_2) (by simpa only [List.drop_drop, Nat.reduceAdd, List.drop_zero] using e0_3)))))
  clear hA0 hval0 hsz0 hsz
  obtain ⟨k, hk⟩ := Pure.RecordWrites x0_0 x0_1 x0_2 x0_3 B0_0 B0_1 B0_2 B0_3
  refine (calamuslaw33_RecordWrites.calls k x0_0 x0_1 x0_2 x0_3 true W hk).mono fun e W' ⟨he, bel_⟩ => ?_
  have bel : Below W.heap.size W W' := bel_
  subst he
  exact ⟨_, rfl, _, _, _, [], _, [], hW', trodAll_mk1 (shut_bool Try.underlying4 _), (trodAll_cons_mk (Below.trod laidOut (by kernel_rfl) (of_decide_eq_true (by kernel_rfl)) k0 bel lt0) trodAll_mk0), rfl, bel.frame _, fun h => by cases h⟩
theorem over : Rows.recordWritesRow.holds Try.pinned (OpenSpec.ofChange Rows.recordWritesSpec) :=
  OpenClaim.holds_of_wide 4 Try.f4 rfl rfl rfl rfl rfl rfl rfl ⟨rfl, rfl, rfl, rfl, rfl⟩ rfl rfl rfl rfl rfl (by kernel_rfl) Try.func4 (by kernel_rfl)
    (of_decide_eq_true (by kernel_rfl)) (by unfold Func.isWrapper; first | (rw [if_pos (by decide +kernel)]; kernel_rfl) | (rw [if_neg (by decide +kernel)]; exact ⟨rfl, rfl⟩))
    (fun os started H enc _ => lifted os started H enc)
theorem proved : Rows.RecordWritesSaid := over
#print axioms proved
end Go.Proofs.Ytealbonfaebikaa.recordWrites
namespace Go.Proofs.Ytealbonfaebikaa
/-- The row, under a short name, for the claim. -/
theorem recordWrites_holds : Rows.RecordWritesSaid := recordWrites.proved
end Go.Proofs.Ytealbonfaebikaa
