/- Of the law calamus/calamuslaw32.FallChoices: each function as a plain Lean function, with a proof that the call comes to it; the row. By wip/tpl/own_print.py. Conditions: none but the row's own. -/
import Derived.Test.YtjobaaolohemgaaRows
import Derived.Test.YtjobaaolohemgaaOFallChoicesp
import Derived.Test.YtjobaaolohemgaaPureFallChoices
import Derived.WalkKit
import Derived.ProofKit
import Derived.OpenShut
import Derived.ShutString
import Derived.ChangeOld
import Derived.Below
import Derived.SizedLaws
import Derived.Test.YtjobaaolohemgaaWSized
namespace Go.Proofs.Ytjobaaolohemgaa.fallChoices
open Go.ChangeShapes Go.WideShapes Go.ChangeAt Go.RowKit Go.Proofs.Ytjobaaolohemgaa.Open Go.Proofs.Ytjobaaolohemgaa.PFallChoices Go.Proofs.YtjobaaolohemgaaW.PrintWords
open Go.ChangeMaps (open_string shut_string)
set_option linter.unusedVariables false
theorem own : ownKnob Try.prog.godebug = none := by kernel_rfl
theorem laidOut : laidOutB Try.prog = true := by kernel_rfl
set_option maxHeartbeats 1000000 in
set_option maxRecDepth 100000 in
theorem lifted (os : Os) (started : os.Started) (H : Type) (enc : TypeId × Value → H) :
    ReturnsInHanded {} Try.checked os 12 .any (Rows.fallChoicesSpec.pre6 enc Try.prog Try.f12 Rows.fallChoicesRow.domain false) (Rows.fallChoicesSpec.post enc Try.prog Try.f12 false true false false) := by
  refine returnsInHanded_of_change_sized (C := Try.checked) own started (by kernel_rfl) Try.func12
    (ChangeSpec.witness6 (enc := enc) (C := Try.checked) false ⟨#[], #[.agg #[.int .i64 0, .slice none 0 0], .agg #[.int .i64 0, .slice none 0 0], .int .i64 0], []⟩ 8 (by kernel_rfl) (by kernel_rfl) (by kernel_rfl) (by kernel_rfl)) ?_
  intro W base args ds gs before hval0 hW hcnd hsz0 _
  have hsz : (DataW.weightsEach Try.prog (Try.f12.params.toList ++ Rows.fallChoicesSpec.plain.varTypes Try.prog) (ds ++ gs)).all (· ≤ reachBytes) = true := hsz0
  have hval : ∀ (j : Nat) t v, Try.f12.params[j]? = some t → args[j]? = some v → Value.okWide Try.prog W .any base t v := hval0
  have hW' := hW
  obtain ⟨p, q, hA0, hV, rfl, hfz, hnd⟩ := hW
  have hA : DataW.TrodAll enc Try.prog W 0 (fun _ => true) true Try.f12.params.toList args.toList ds p := hA0
  rw [Try.params12] at hA hval hsz
  obtain ⟨v0, vs0, d0, ds0, p0, q900, hargs, rfl, rfl, h0, r0⟩ := trodAll_cons hA
  obtain ⟨v1, vs1, d1, ds1, p1, q901, rfl, rfl, rfl, h1, r1⟩ := trodAll_cons r0
  obtain ⟨v2, vs2, d2, ds2, p2, q902, rfl, rfl, rfl, h2, r2⟩ := trodAll_cons r1
  obtain ⟨rfl, rfl, rfl⟩ := trodAll_nil r2
  obtain rfl : args = #[v0, v1, v2] := by cases args; simp_all
  obtain ⟨rfl, rfl⟩ := trodVars_none hV
  obtain ⟨q0, rfl, _⟩ := okWide_struct Try.underlying57 (hval 0 57 v0 rfl rfl)
  have k0 := h0
  have lt0 : ∀ x ∈ p0, x.block < W.heap.size := by obtain ⟨m, hm⟩ := k0; exact DataW.trod_lt m _ _ _ hm
  obtain ⟨m0, hm0⟩ := h0
  have hz0 := weights_arg hsz (j := 0) (t := 57) rfl rfl
  obtain ⟨xs0, n0, _, hx0, hlen0, hxl0, hf0⟩ := DataW.trod_struct Try.underlying57 (show DataW.trod enc Try.prog W 0 (fun _ => true) true m0 57 q0.toList = some _ from hm0)
  rw [show d0 = _ from congrArg Prod.fst hx0] at hz0
  have hcs0 : Try.prog.cellsOf 57 = 2 := by kernel_rfl
  obtain ⟨x0_0, K0_0, B0_0⟩ := opens_field Try.underlying57 0 _ rfl rfl (opens_int (P := Try.prog) (t := 3) Try.underlying3) (hf0 0 _ rfl) hxl0 hz0 (o := 0) (s := 1) rfl (by kernel_rfl)
  have e0_0 : (q0.toList.drop 0).take 1 = [.int .i64 x0_0] := K0_0
  obtain ⟨x0_1, K0_1, B0_1⟩ := opens_field Try.underlying57 1 _ rfl rfl (opens_slice (t := 22) (b := 8) Try.underlying22 (opens_int (P := Try.prog) (t := 3) Try.underlying3) (by kernel_rfl) (by kernel_rfl)) (hf0 1 _ rfl) hxl0 hz0 (o := 1) (s := 1) rfl (by kernel_rfl)
  obtain ⟨A0_1, c0_1, e0_1, hc0_1, hr0_1⟩ := K0_1
  have el0 : (q0.toList.drop 1).take 1 = q0.toList.drop 1 := List.take_of_length_le (by rw [List.length_drop, hlen0, hcs0] <;> decide)
  rw [el0] at e0_1
  obtain rfl : q0 = #[.int .i64 x0_0, .slice A0_1 x0_1.length c0_1] := Array.ext' (show q0.toList = [.int .i64 x0_0, .slice A0_1 x0_1.length c0_1] from (seg_ 1 (by simpa only [List.drop_drop, Nat.reduceAdd, List.drop_zero] using e0_0) (by simpa only [List.drop_drop, Nat.reduceAdd, List.drop_zero] using e0_1)))
  obtain ⟨q1, rfl, _⟩ := okWide_struct Try.underlying57 (hval 1 57 v1 rfl rfl)
  have k1 := h1
  have lt1 : ∀ x ∈ p1, x.block < W.heap.size := by obtain ⟨m, hm⟩ := k1; exact DataW.trod_lt m _ _ _ hm
  obtain ⟨m1, hm1⟩ := h1
  have hz1 := weights_arg hsz (j := 1) (t := 57) rfl rfl
  obtain ⟨xs1, n1, _, hx1, hlen1, hxl1, hf1⟩ := DataW.trod_struct Try.underlying57 (show DataW.trod enc Try.prog W 0 (fun _ => true) true m1 57 q1.toList = some _ from hm1)
  rw [show d1 = _ from congrArg Prod.fst hx1] at hz1
  have hcs1 : Try.prog.cellsOf 57 = 2 := by kernel_rfl
  obtain ⟨x1_0, K1_0, B1_0⟩ := opens_field Try.underlying57 0 _ rfl rfl (opens_int (P := Try.prog) (t := 3) Try.underlying3) (hf1 0 _ rfl) hxl1 hz1 (o := 0) (s := 1) rfl (by kernel_rfl)
  have e1_0 : (q1.toList.drop 0).take 1 = [.int .i64 x1_0] := K1_0
  obtain ⟨x1_1, K1_1, B1_1⟩ := opens_field Try.underlying57 1 _ rfl rfl (opens_slice (t := 22) (b := 8) Try.underlying22 (opens_int (P := Try.prog) (t := 3) Try.underlying3) (by kernel_rfl) (by kernel_rfl)) (hf1 1 _ rfl) hxl1 hz1 (o := 1) (s := 1) rfl (by kernel_rfl)
  obtain ⟨A1_1, c1_1, e1_1, hc1_1, hr1_1⟩ := K1_1
  have el1 : (q1.toList.drop 1).take 1 = q1.toList.drop 1 := List.take_of_length_le (by rw [List.length_drop, hlen1, hcs1] <;> decide)
  rw [el1] at e1_1
  obtain rfl : q1 = #[.int .i64 x1_0, .slice A1_1 x1_1.length c1_1] := Array.ext' (show q1.toList = [.int .i64 x1_0, .slice A1_1 x1_1.length c1_1] from (seg_ 1 (by simpa only [List.drop_drop, Nat.reduceAdd, List.drop_zero] using e1_0) (by simpa only [List.drop_drop, Nat.reduceAdd, List.drop_zero] using e1_1)))
  obtain ⟨x2, rfl, rfl, rfl, B2⟩ := open_int Try.underlying3 (hval 2 3 v2 rfl rfl) h2
  clear hA0 hval0 hsz0 hsz
  obtain ⟨k, hk⟩ := Pure.FallChoices x0_0 x0_1 x1_0 x1_1 x2 B0_0 B0_1 B1_0 B1_1 B2
  refine (calamuslaw32_FallChoices.calls k x0_0 _ _ x0_1 x1_0 _ _ x1_1 x2 true W hr0_1 hc0_1 hr1_1 hc1_1 hk).mono fun e W' ⟨he, bel_⟩ => ?_
  have bel : Below W.heap.size W W' := bel_
  subst he
  exact ⟨_, rfl, _, _, _, [], _, [], hW', trodAll_mk1 (shut_bool Try.underlying4 _), (trodAll_cons_mk (Below.trod laidOut (by kernel_rfl) (of_decide_eq_true (by kernel_rfl)) k0 bel lt0) (trodAll_cons_mk (Below.trod laidOut (by kernel_rfl) (of_decide_eq_true (by kernel_rfl)) k1 bel lt1) (trodAll_cons_mk (shut_int Try.underlying3 B2) trodAll_mk0))), rfl, bel.frame _, fun h => by cases h⟩
theorem over : Rows.fallChoicesRow.holds Try.pinned (OpenSpec.ofChange Rows.fallChoicesSpec) :=
  OpenClaim.holds_of_wide 12 Try.f12 rfl rfl rfl rfl rfl rfl rfl ⟨rfl, rfl, rfl, rfl, rfl⟩ rfl rfl rfl rfl rfl (by kernel_rfl) Try.func12 (by kernel_rfl)
    (of_decide_eq_true (by kernel_rfl)) (by unfold Func.isWrapper; first | (rw [if_pos (by decide +kernel)]; kernel_rfl) | (rw [if_neg (by decide +kernel)]; exact ⟨rfl, rfl⟩))
    (fun os started H enc _ => lifted os started H enc)
theorem proved : Rows.FallChoicesSaid := over
#print axioms proved
end Go.Proofs.Ytjobaaolohemgaa.fallChoices
namespace Go.Proofs.Ytjobaaolohemgaa
/-- The row, under a short name, for the claim. -/
theorem fallChoices_holds : Rows.FallChoicesSaid := fallChoices.proved
end Go.Proofs.Ytjobaaolohemgaa
