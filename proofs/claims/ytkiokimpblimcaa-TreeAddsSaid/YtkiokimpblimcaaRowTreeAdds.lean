/- Of the law calamus/calamuslaw11.TreeAdds: each function as a plain Lean function, with a proof that the call comes to it; the row. By wip/tpl/own_print.py. Conditions: none but the row's own. -/
import Derived.Test.YtkiokimpblimcaaRows
import Derived.Test.YtkiokimpblimcaaOTreeAddsp
import Derived.Test.YtkiokimpblimcaaPureTreeAdds
import Derived.WalkKit
import Derived.ProofKit
import Derived.OpenShut
import Derived.ShutString
import Derived.ChangeOld
import Derived.Below
import Derived.SizedLaws
import Derived.Test.YtkiokimpblimcaaWSized
namespace Go.Proofs.Ytkiokimpblimcaa.treeAdds
open Go.ChangeShapes Go.WideShapes Go.ChangeAt Go.RowKit Go.Proofs.Ytkiokimpblimcaa.Open Go.Proofs.Ytkiokimpblimcaa.PTreeAdds Go.Proofs.YtkiokimpblimcaaW.PrintWords
open Go.ChangeMaps (open_string shut_string)
set_option linter.unusedVariables false
theorem own : ownKnob Try.prog.godebug = none := by kernel_rfl
theorem laidOut : laidOutB Try.prog = true := by kernel_rfl
theorem op24 : Opens Try.prog k24 24 b24 := by
  intro H enc w base spare held fuel cs x hx hz
  obtain ⟨xs, n, _, hx', hlen, hxl, hf⟩ := DataW.trod_struct Try.underlying24 hx
  subst hx'
  have hcs : Try.prog.cellsOf 24 = 3 := by kernel_rfl
  obtain ⟨a0, k0_, b0_⟩ := opens_field Try.underlying24 0 _ rfl rfl (opens_int (P := Try.prog) (t := 3) Try.underlying3) (hf 0 _ rfl) hxl hz (o := 0) (s := 1) rfl (by kernel_rfl)
  obtain ⟨a1, k1_, b1_⟩ := opens_field Try.underlying24 1 _ rfl rfl (opens_string (P := Try.prog) (t := 9) Try.underlying9) (hf 1 _ rfl) hxl hz (o := 1) (s := 1) rfl (by kernel_rfl)
  obtain ⟨a2, k2_, b2_⟩ := opens_field Try.underlying24 2 _ rfl rfl (opens_string (P := Try.prog) (t := 9) Try.underlying9) (hf 2 _ rfl) hxl hz (o := 2) (s := 1) rfl (by kernel_rfl)
  have el : (cs.drop 2).take 1 = cs.drop 2 := List.take_of_length_le (by rw [List.length_drop, hlen, hcs] <;> decide)
  rw [el] at k2_
  exact ⟨⟨a0, a1, a2⟩, (pair_K 1 (by first | exact k0_ | simpa only [List.drop_drop, Nat.reduceAdd, List.drop_zero] using k0_) (pair_K 1 (by first | exact k1_ | simpa only [List.drop_drop, Nat.reduceAdd, List.drop_zero] using k1_) (by first | exact k2_ | simpa only [List.drop_drop, Nat.reduceAdd, List.drop_zero] using k2_))), b0_, b1_, b2_⟩
theorem op69 : Opens Try.prog k69 69 b69 := by
  intro H enc w base spare held fuel cs x hx hz
  obtain ⟨xs, n, _, hx', hlen, hxl, hf⟩ := DataW.trod_struct Try.underlying69 hx
  subst hx'
  have hcs : Try.prog.cellsOf 69 = 7 := by kernel_rfl
  obtain ⟨a0, k0_, b0_⟩ := opens_field Try.underlying69 0 _ rfl rfl (opens_int (P := Try.prog) (t := 3) Try.underlying3) (hf 0 _ rfl) hxl hz (o := 0) (s := 1) rfl (by kernel_rfl)
  obtain ⟨a1, k1_, b1_⟩ := opens_field Try.underlying69 1 _ rfl rfl (opens_int (P := Try.prog) (t := 3) Try.underlying3) (hf 1 _ rfl) hxl hz (o := 1) (s := 1) rfl (by kernel_rfl)
  obtain ⟨a2, k2_, b2_⟩ := opens_field Try.underlying69 2 _ rfl rfl (opens_int (P := Try.prog) (t := 3) Try.underlying3) (hf 2 _ rfl) hxl hz (o := 2) (s := 1) rfl (by kernel_rfl)
  obtain ⟨a3, k3_, b3_⟩ := opens_field Try.underlying69 3 _ rfl rfl (opens_int (P := Try.prog) (t := 3) Try.underlying3) (hf 3 _ rfl) hxl hz (o := 3) (s := 1) rfl (by kernel_rfl)
  obtain ⟨a4, k4_, b4_⟩ := opens_field Try.underlying69 4 _ rfl rfl op24 (hf 4 _ rfl) hxl hz (o := 4) (s := 3) rfl (by kernel_rfl)
  have el : (cs.drop 4).take 3 = cs.drop 4 := List.take_of_length_le (by rw [List.length_drop, hlen, hcs] <;> decide)
  rw [el] at k4_
  exact ⟨⟨a0, a1, a2, a3, a4⟩, (pair_K 1 (by first | exact k0_ | simpa only [List.drop_drop, Nat.reduceAdd, List.drop_zero] using k0_) (pair_K 1 (by first | exact k1_ | simpa only [List.drop_drop, Nat.reduceAdd, List.drop_zero] using k1_) (pair_K 1 (by first | exact k2_ | simpa only [List.drop_drop, Nat.reduceAdd, List.drop_zero] using k2_) (pair_K 1 (by first | exact k3_ | simpa only [List.drop_drop, Nat.reduceAdd, List.drop_zero] using k3_) (by first | exact k4_ | simpa only [List.drop_drop, Nat.reduceAdd, List.drop_zero] using k4_))))), b0_, b1_, b2_, b3_, b4_⟩
set_option maxHeartbeats 1000000 in
set_option maxRecDepth 100000 in
theorem lifted (os : Os) (started : os.Started) (H : Type) (enc : TypeId × Value → H) :
    ReturnsInHanded {} Try.checked os 8 .any (Rows.treeAddsSpec.pre6 enc Try.prog Try.f8 Rows.treeAddsRow.domain false) (Rows.treeAddsSpec.post enc Try.prog Try.f8 false true false false) := by
  refine returnsInHanded_of_change_sized (C := Try.checked) own started (by kernel_rfl) Try.func8
    (ChangeSpec.witness6 (enc := enc) (C := Try.checked) false ⟨#[], #[.agg #[.slice none 0 0, .int .i64 0], .agg #[.int .i64 0, .string ByteArray.empty, .string ByteArray.empty], .agg #[.int .i64 0, .int .i64 0], .agg #[.slice none 0 0, .int .i64 0]], []⟩ 8 (by kernel_rfl) (by kernel_rfl) (by kernel_rfl) (by kernel_rfl)) ?_
  intro W base args ds gs before hval0 hW hcnd hsz0 _
  have hsz : (DataW.weightsEach Try.prog (Try.f8.params.toList ++ Rows.treeAddsSpec.plain.varTypes Try.prog) (ds ++ gs)).all (· ≤ reachBytes) = true := hsz0
  have hval : ∀ (j : Nat) t v, Try.f8.params[j]? = some t → args[j]? = some v → Value.okWide Try.prog W .any base t v := hval0
  have hW' := hW
  obtain ⟨p, q, hA0, hV, rfl, hfz, hnd⟩ := hW
  have hA : DataW.TrodAll enc Try.prog W 0 (fun _ => true) true Try.f8.params.toList args.toList ds p := hA0
  rw [Try.params8] at hA hval hsz
  obtain ⟨v0, vs0, d0, ds0, p0, q900, hargs, rfl, rfl, h0, r0⟩ := trodAll_cons hA
  obtain ⟨v1, vs1, d1, ds1, p1, q901, rfl, rfl, rfl, h1, r1⟩ := trodAll_cons r0
  obtain ⟨v2, vs2, d2, ds2, p2, q902, rfl, rfl, rfl, h2, r2⟩ := trodAll_cons r1
  obtain ⟨v3, vs3, d3, ds3, p3, q903, rfl, rfl, rfl, h3, r3⟩ := trodAll_cons r2
  obtain ⟨rfl, rfl, rfl⟩ := trodAll_nil r3
  obtain rfl : args = #[v0, v1, v2, v3] := by cases args; simp_all
  obtain ⟨rfl, rfl⟩ := trodVars_none hV
  obtain ⟨q0, rfl, _⟩ := okWide_struct Try.underlying46 (hval 0 46 v0 rfl rfl)
  have k0 := h0
  have lt0 : ∀ x ∈ p0, x.block < W.heap.size := by obtain ⟨m, hm⟩ := k0; exact DataW.trod_lt m _ _ _ hm
  obtain ⟨m0, hm0⟩ := h0
  have hz0 := weights_arg hsz (j := 0) (t := 46) rfl rfl
  obtain ⟨xs0, n0, _, hx0, hlen0, hxl0, hf0⟩ := DataW.trod_struct Try.underlying46 (show DataW.trod enc Try.prog W 0 (fun _ => true) true m0 46 q0.toList = some _ from hm0)
  rw [show d0 = _ from congrArg Prod.fst hx0] at hz0
  have hcs0 : Try.prog.cellsOf 46 = 2 := by kernel_rfl
  obtain ⟨x0_0, K0_0, B0_0⟩ := opens_field Try.underlying46 0 _ rfl rfl (opens_slice (t := 44) (b := 72) Try.underlying44 op69 (by kernel_rfl) (by kernel_rfl)) (hf0 0 _ rfl) hxl0 hz0 (o := 0) (s := 1) rfl (by kernel_rfl)
  obtain ⟨A0_0, c0_0, e0_0, hc0_0, hr0_0⟩ := K0_0
  obtain ⟨x0_1, K0_1, B0_1⟩ := opens_field Try.underlying46 1 _ rfl rfl (opens_int (P := Try.prog) (t := 3) Try.underlying3) (hf0 1 _ rfl) hxl0 hz0 (o := 1) (s := 1) rfl (by kernel_rfl)
  have e0_1 : (q0.toList.drop 1).take 1 = [.int .i64 x0_1] := K0_1
  have el0 : (q0.toList.drop 1).take 1 = q0.toList.drop 1 := List.take_of_length_le (by rw [List.length_drop, hlen0, hcs0] <;> decide)
  rw [el0] at e0_1
  obtain rfl : q0 = #[.slice A0_0 x0_0.length c0_0, .int .i64 x0_1] := Array.ext' (show q0.toList = [.slice A0_0 x0_0.length c0_0, .int .i64 x0_1] from (seg_ 1 (by simpa only [List.drop_drop, Nat.reduceAdd, List.drop_zero] using e0_0) (by simpa only [List.drop_drop, Nat.reduceAdd, List.drop_zero] using e0_1)))
  obtain ⟨q1, rfl, _⟩ := okWide_struct Try.underlying24 (hval 1 24 v1 rfl rfl)
  have k1 := h1
  have lt1 : ∀ x ∈ p1, x.block < W.heap.size := by obtain ⟨m, hm⟩ := k1; exact DataW.trod_lt m _ _ _ hm
  obtain ⟨m1, hm1⟩ := h1
  have hz1 := weights_arg hsz (j := 1) (t := 24) rfl rfl
  obtain ⟨xs1, n1, _, hx1, hlen1, hxl1, hf1⟩ := DataW.trod_struct Try.underlying24 (show DataW.trod enc Try.prog W 0 (fun _ => true) true m1 24 q1.toList = some _ from hm1)
  rw [show d1 = _ from congrArg Prod.fst hx1] at hz1
  have hcs1 : Try.prog.cellsOf 24 = 3 := by kernel_rfl
  obtain ⟨x1_0, K1_0, B1_0⟩ := opens_field Try.underlying24 0 _ rfl rfl (opens_int (P := Try.prog) (t := 3) Try.underlying3) (hf1 0 _ rfl) hxl1 hz1 (o := 0) (s := 1) rfl (by kernel_rfl)
  have e1_0 : (q1.toList.drop 0).take 1 = [.int .i64 x1_0] := K1_0
  obtain ⟨x1_1, K1_1, B1_1⟩ := opens_field Try.underlying24 1 _ rfl rfl (opens_string (P := Try.prog) (t := 9) Try.underlying9) (hf1 1 _ rfl) hxl1 hz1 (o := 1) (s := 1) rfl (by kernel_rfl)
  have e1_1 : (q1.toList.drop 1).take 1 = [.string x1_1] := K1_1
  obtain ⟨x1_2, K1_2, B1_2⟩ := opens_field Try.underlying24 2 _ rfl rfl (opens_string (P := Try.prog) (t := 9) Try.underlying9) (hf1 2 _ rfl) hxl1 hz1 (o := 2) (s := 1) rfl (by kernel_rfl)
  have e1_2 : (q1.toList.drop 2).take 1 = [.string x1_2] := K1_2
  have el1 : (q1.toList.drop 2).take 1 = q1.toList.drop 2 := List.take_of_length_le (by rw [List.length_drop, hlen1, hcs1] <;> decide)
  rw [el1] at e1_2
  obtain rfl : q1 = #[.int .i64 x1_0, .string x1_1, .string x1_2] := Array.ext' (show q1.toList = [.int .i64 x1_0, .string x1_1, .string x1_2] from (seg_ 1 (by simpa only [List.drop_drop, Nat.reduceAdd, List.drop_zero] using e1_0) (seg_ 1 (by simpa only [List.drop_drop, Nat.reduceAdd, List.drop_zero] using e1_1) (by simpa only [List.drop_drop, Nat.reduceAdd, List.drop_zero] using e1_2))))
  obtain ⟨q2, rfl, _⟩ := okWide_array Try.underlying47 (hval 2 47 v2 rfl rfl)
  have k2 := h2
  have lt2 : ∀ x ∈ p2, x.block < W.heap.size := by obtain ⟨m, hm⟩ := k2; exact DataW.trod_lt m _ _ _ hm
  obtain ⟨m2, hm2⟩ := h2
  obtain ⟨xs2, n2, _, hx2, hlen2, hxl2, hf2⟩ := DataW.trod_array Try.underlying47 (show DataW.trod enc Try.prog W 0 (fun _ => true) true m2 47 q2.toList = some _ from hm2)
  have hcs2 : Try.prog.cellsOf 47 = 2 := by kernel_rfl
  obtain ⟨x2_0, e2_0, B2_0⟩ := array_int Try.underlying3 (by kernel_rfl) hxl2 hf2 0 (by decide)
  obtain ⟨x2_1, e2_1, B2_1⟩ := array_int Try.underlying3 (by kernel_rfl) hxl2 hf2 1 (by decide)
  have el2 : (q2.toList.drop 1).take 1 = q2.toList.drop 1 := List.take_of_length_le (by rw [List.length_drop, hlen2, hcs2] <;> decide)
  rw [el2] at e2_1
  obtain rfl : q2 = #[.int .i64 x2_0, .int .i64 x2_1] := Array.ext' (show q2.toList = [.int .i64 x2_0, .int .i64 x2_1] from (seg_ 1 (by simpa only [List.drop_drop, Nat.reduceAdd, List.drop_zero] using e2_0) (by simpa only [List.drop_drop, Nat.reduceAdd, List.drop_zero] using e2_1)))
  obtain ⟨q3, rfl, _⟩ := okWide_struct Try.underlying46 (hval 3 46 v3 rfl rfl)
  have k3 := h3
  have lt3 : ∀ x ∈ p3, x.block < W.heap.size := by obtain ⟨m, hm⟩ := k3; exact DataW.trod_lt m _ _ _ hm
  obtain ⟨m3, hm3⟩ := h3
  have hz3 := weights_arg hsz (j := 3) (t := 46) rfl rfl
  obtain ⟨xs3, n3, _, hx3, hlen3, hxl3, hf3⟩ := DataW.trod_struct Try.underlying46 (show DataW.trod enc Try.prog W 0 (fun _ => true) true m3 46 q3.toList = some _ from hm3)
  rw [show d3 = _ from congrArg Prod.fst hx3] at hz3
  have hcs3 : Try.prog.cellsOf 46 = 2 := by kernel_rfl
  obtain ⟨x3_0, K3_0, B3_0⟩ := opens_field Try.underlying46 0 _ rfl rfl (opens_slice (t := 44) (b := 72) Try.underlying44 op69 (by kernel_rfl) (by kernel_rfl)) (hf3 0 _ rfl) hxl3 hz3 (o := 0) (s := 1) rfl (by kernel_rfl)
  obtain ⟨A3_0, c3_0, e3_0, hc3_0, hr3_0⟩ := K3_0
  obtain ⟨x3_1, K3_1, B3_1⟩ := opens_field Try.underlying46 1 _ rfl rfl (opens_int (P := Try.prog) (t := 3) Try.underlying3) (hf3 1 _ rfl) hxl3 hz3 (o := 1) (s := 1) rfl (by kernel_rfl)
  have e3_1 : (q3.toList.drop 1).take 1 = [.int .i64 x3_1] := K3_1
  have el3 : (q3.toList.drop 1).take 1 = q3.toList.drop 1 := List.take_of_length_le (by rw [List.length_drop, hlen3, hcs3] <;> decide)
  rw [el3] at e3_1
  obtain rfl : q3 = #[.slice A3_0 x3_0.length c3_0, .int .i64 x3_1] := Array.ext' (show q3.toList = [.slice A3_0 x3_0.length c3_0, .int .i64 x3_1] from (seg_ 1 (by simpa only [List.drop_drop, Nat.reduceAdd, List.drop_zero] using e3_0) (by simpa only [List.drop_drop, Nat.reduceAdd, List.drop_zero] using e3_1)))
  clear hA0 hval0 hsz0 hsz
  obtain ⟨k, hk⟩ := Pure.TreeAdds x0_0 x0_1 x1_0 x1_1 x1_2 x2_0 x2_1 x3_0 x3_1 B0_0 B0_1 B1_0 B1_1 B1_2 B2_0 B2_1 B3_0 B3_1
  refine (calamuslaw11_TreeAdds.calls k _ _ x0_0 x0_1 x1_0 x1_1 x1_2 x2_0 x2_1 _ _ x3_0 x3_1 true W hr0_0 hc0_0 hr3_0 hc3_0 hk).mono fun e W' ⟨he, bel_⟩ => ?_
  have bel : Below W.heap.size W W' := bel_
  subst he
  exact ⟨_, rfl, _, _, _, [], _, [], hW', trodAll_mk1 (shut_bool Try.underlying4 _), (trodAll_cons_mk (Below.trod laidOut (by kernel_rfl) (of_decide_eq_true (by kernel_rfl)) k0 bel lt0) (trodAll_cons_mk (Below.trod laidOut (by kernel_rfl) (of_decide_eq_true (by kernel_rfl)) k1 bel lt1) (trodAll_cons_mk (Below.trod laidOut (by kernel_rfl) (of_decide_eq_true (by kernel_rfl)) k2 bel lt2) (trodAll_cons_mk (Below.trod laidOut (by kernel_rfl) (of_decide_eq_true (by kernel_rfl)) k3 bel lt3) trodAll_mk0)))), rfl, bel.frame _, fun h => by cases h⟩
theorem over : Rows.treeAddsRow.holds Try.pinned (OpenSpec.ofChange Rows.treeAddsSpec) :=
  OpenClaim.holds_of_wide 8 Try.f8 rfl rfl rfl rfl rfl rfl rfl ⟨rfl, rfl, rfl, rfl, rfl⟩ rfl rfl rfl rfl rfl (by kernel_rfl) Try.func8 (by kernel_rfl)
    (of_decide_eq_true (by kernel_rfl)) (by unfold Func.isWrapper; first | (rw [if_pos (by decide +kernel)]; kernel_rfl) | (rw [if_neg (by decide +kernel)]; exact ⟨rfl, rfl⟩))
    (fun os started H enc _ => lifted os started H enc)
theorem proved : Rows.TreeAddsSaid := over
#print axioms proved
end Go.Proofs.Ytkiokimpblimcaa.treeAdds
namespace Go.Proofs.Ytkiokimpblimcaa
/-- The row, under a short name, for the claim. -/
theorem treeAdds_holds : Rows.TreeAddsSaid := treeAdds.proved
end Go.Proofs.Ytkiokimpblimcaa
