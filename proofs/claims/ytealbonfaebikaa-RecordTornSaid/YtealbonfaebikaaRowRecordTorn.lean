/- Of the law calamus/calamuslaw33.RecordTorn: each function as a plain Lean function, with a proof that the call comes to it; the row. By wip/tpl/own_print.py. Conditions: none but the row's own. -/
import Derived.Test.YtealbonfaebikaaRows
import Derived.Test.YtealbonfaebikaaORecordTornp
import Derived.Test.YtealbonfaebikaaPureRecordTorn
import Derived.WalkKit
import Derived.ProofKit
import Derived.OpenShut
import Derived.ShutString
import Derived.ChangeOld
import Derived.Below
import Derived.SizedLaws
import Derived.Test.YtealbonfaebikaaWSized
namespace Go.Proofs.Ytealbonfaebikaa.recordTorn
open Go.ChangeShapes Go.WideShapes Go.ChangeAt Go.RowKit Go.Proofs.Ytealbonfaebikaa.Open Go.Proofs.Ytealbonfaebikaa.PRecordTorn Go.Proofs.YtealbonfaebikaaW.PrintWords
open Go.ChangeMaps (open_string shut_string)
set_option linter.unusedVariables false
theorem own : ownKnob Try.prog.godebug = none := by kernel_rfl
theorem laidOut : laidOutB Try.prog = true := by kernel_rfl
theorem op26 : Opens Try.prog k26 26 b26 := by
  intro H enc w base spare held fuel cs x hx hz
  obtain ⟨xs, n, _, hx', hlen, hxl, hf⟩ := DataW.trod_struct Try.underlying26 hx
  subst hx'
  have hcs : Try.prog.cellsOf 26 = 4 := by kernel_rfl
  obtain ⟨a0, k0_, b0_⟩ := opens_field Try.underlying26 0 _ rfl rfl (opens_int (P := Try.prog) (t := 3) Try.underlying3) (hf 0 _ rfl) hxl hz (o := 0) (s := 1) rfl (by kernel_rfl)
  obtain ⟨a1, k1_, b1_⟩ := opens_field Try.underlying26 1 _ rfl rfl (opens_int (P := Try.prog) (t := 3) Try.underlying3) (hf 1 _ rfl) hxl hz (o := 1) (s := 1) rfl (by kernel_rfl)
  obtain ⟨a2, k2_, b2_⟩ := opens_field Try.underlying26 2 _ rfl rfl (opens_int (P := Try.prog) (t := 3) Try.underlying3) (hf 2 _ rfl) hxl hz (o := 2) (s := 1) rfl (by kernel_rfl)
  obtain ⟨a3, k3_, b3_⟩ := opens_field Try.underlying26 3 _ rfl rfl (opens_string (P := Try.prog) (t := 9) Try.underlying9) (hf 3 _ rfl) hxl hz (o := 3) (s := 1) rfl (by kernel_rfl)
  have el : (cs.drop 3).take 1 = cs.drop 3 := List.take_of_length_le (by rw [List.length_drop, hlen, hcs] <;> decide)
  rw [el] at k3_
  exact ⟨⟨a0, a1, a2, a3⟩, (pair_K 1 (by first | exact k0_ | simpa only [List.drop_drop, Nat.reduceAdd, List.drop_zero] using k0_) (pair_K 1 (by first | exact k1_ | simpa only [List.drop_drop, Nat.reduceAdd, List.drop_zero] using k1_) (pair_K 1 (by first | exact k2_ | simpa only [List.drop_drop, Nat.reduceAdd, List.drop_zero] using k2_) (by first | exact k3_ | simpa only [List.drop_drop, Nat.reduceAdd, List.drop_zero] using k3_)))), b0_, b1_, b2_, b3_⟩
set_option maxHeartbeats 1000000 in
set_option maxRecDepth 100000 in
theorem lifted (os : Os) (started : os.Started) (H : Type) (enc : TypeId × Value → H) :
    ReturnsInHanded {} Try.checked os 7 .any (Rows.recordTornSpec.pre6 enc Try.prog Try.f7 Rows.recordTornRow.domain false) (Rows.recordTornSpec.post enc Try.prog Try.f7 false true false false) := by
  refine returnsInHanded_of_change_sized (C := Try.checked) own started (by kernel_rfl) Try.func7
    (ChangeSpec.witness6 (enc := enc) (C := Try.checked) false ⟨#[], #[.slice none 0 0, .int .i64 0, .int .i64 0], []⟩ 8 (by kernel_rfl) (by kernel_rfl) (by kernel_rfl) (by kernel_rfl)) ?_
  intro W base args ds gs before hval0 hW hcnd hsz0 _
  have hsz : (DataW.weightsEach Try.prog (Try.f7.params.toList ++ Rows.recordTornSpec.plain.varTypes Try.prog) (ds ++ gs)).all (· ≤ reachBytes) = true := hsz0
  have hval : ∀ (j : Nat) t v, Try.f7.params[j]? = some t → args[j]? = some v → Value.okWide Try.prog W .any base t v := hval0
  have hW' := hW
  obtain ⟨p, q, hA0, hV, rfl, hfz, hnd⟩ := hW
  have hA : DataW.TrodAll enc Try.prog W 0 (fun _ => true) true Try.f7.params.toList args.toList ds p := hA0
  rw [Try.params7] at hA hval hsz
  obtain ⟨v0, vs0, d0, ds0, p0, q900, hargs, rfl, rfl, h0, r0⟩ := trodAll_cons hA
  obtain ⟨v1, vs1, d1, ds1, p1, q901, rfl, rfl, rfl, h1, r1⟩ := trodAll_cons r0
  obtain ⟨v2, vs2, d2, ds2, p2, q902, rfl, rfl, rfl, h2, r2⟩ := trodAll_cons r1
  obtain ⟨rfl, rfl, rfl⟩ := trodAll_nil r2
  obtain rfl : args = #[v0, v1, v2] := by cases args; simp_all
  obtain ⟨rfl, rfl⟩ := trodVars_none hV
  obtain ⟨A0, len0, c0, rfl⟩ := okWide_slice Try.underlying48 (hval 0 48 v0 rfl rfl)
  have k0 := h0
  have lt0 : ∀ x ∈ p0, x.block < W.heap.size := by obtain ⟨m, hm⟩ := k0; exact DataW.trod_lt m _ _ _ hm
  obtain ⟨x0, ⟨A0', c0', e0, hc0, hr0⟩, B0⟩ := opens_arg (opens_slice (t := 48) (b := 40) Try.underlying48 op26 (by kernel_rfl) (by kernel_rfl)) h0 hsz (j := 0) rfl rfl
  obtain ⟨rfl, rfl, rfl⟩ : A0 = A0' ∧ len0 = x0.length ∧ c0 = c0' := by simpa [Value.cells] using e0
  obtain ⟨x1, rfl, rfl, rfl, B1⟩ := open_int Try.underlying3 (hval 1 3 v1 rfl rfl) h1
  obtain ⟨x2, rfl, rfl, rfl, B2⟩ := open_int Try.underlying3 (hval 2 3 v2 rfl rfl) h2
  clear hA0 hval0 hsz0 hsz
  obtain ⟨k, hk⟩ := Pure.RecordTorn x0 x1 x2 B0 B1 B2
  refine (calamuslaw33_RecordTorn.calls k _ _ x0 x1 x2 true W hr0 hc0 hk).mono fun e W' ⟨he, bel_⟩ => ?_
  have bel : Below W.heap.size W W' := bel_
  subst he
  exact ⟨_, rfl, _, _, _, [], _, [], hW', trodAll_mk1 (shut_bool Try.underlying4 _), (trodAll_cons_mk (Below.trod laidOut (by kernel_rfl) (of_decide_eq_true (by kernel_rfl)) k0 bel lt0) (trodAll_cons_mk (shut_int Try.underlying3 B1) (trodAll_cons_mk (shut_int Try.underlying3 B2) trodAll_mk0))), rfl, bel.frame _, fun h => by cases h⟩
theorem over : Rows.recordTornRow.holds Try.pinned (OpenSpec.ofChange Rows.recordTornSpec) :=
  OpenClaim.holds_of_wide 7 Try.f7 rfl rfl rfl rfl rfl rfl rfl ⟨rfl, rfl, rfl, rfl, rfl⟩ rfl rfl rfl rfl rfl (by kernel_rfl) Try.func7 (by kernel_rfl)
    (of_decide_eq_true (by kernel_rfl)) (by unfold Func.isWrapper; first | (rw [if_pos (by decide +kernel)]; kernel_rfl) | (rw [if_neg (by decide +kernel)]; exact ⟨rfl, rfl⟩))
    (fun os started H enc _ => lifted os started H enc)
theorem proved : Rows.RecordTornSaid := over
#print axioms proved
end Go.Proofs.Ytealbonfaebikaa.recordTorn
namespace Go.Proofs.Ytealbonfaebikaa
/-- The row, under a short name, for the claim. -/
theorem recordTorn_holds : Rows.RecordTornSaid := recordTorn.proved
end Go.Proofs.Ytealbonfaebikaa
