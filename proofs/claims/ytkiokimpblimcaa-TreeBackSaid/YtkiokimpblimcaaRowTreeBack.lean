/- Of the law calamus/calamuslaw11.TreeBack: each function as a plain Lean function, with a proof that the call comes to it; the row. By wip/tpl/own_print.py. Conditions: none but the row's own. -/
import Derived.Test.YtkiokimpblimcaaRows
import Derived.Test.YtkiokimpblimcaaOTreeBackp
import Derived.Test.YtkiokimpblimcaaPureTreeBack
import Derived.WalkKit
import Derived.ProofKit
import Derived.OpenShut
import Derived.ShutString
import Derived.ChangeOld
import Derived.Below
import Derived.SizedLaws
import Derived.Test.YtkiokimpblimcaaWSized
namespace Go.Proofs.Ytkiokimpblimcaa.treeBack
open Go.ChangeShapes Go.WideShapes Go.ChangeAt Go.RowKit Go.Proofs.Ytkiokimpblimcaa.Open Go.Proofs.Ytkiokimpblimcaa.PTreeBack Go.Proofs.YtkiokimpblimcaaW.PrintWords
open Go.ChangeMaps (open_string shut_string)
set_option linter.unusedVariables false
theorem own : ownKnob Try.prog.godebug = none := by kernel_rfl
theorem laidOut : laidOutB Try.prog = true := by kernel_rfl
theorem op24 : Opens Try.prog k24 24 b24 := by
  intro H enc w base spare held fuel cs x hx hz
  obtain ⟨xs, n, _, hx', hlen, hxl, hf⟩ := DataW.trod_struct Try.underlying24 hx
  subst hx'
  have hcs : Try.prog.cellsOf 24 = 3 := by kernel_rfl
  obtain ⟨a0, k0_, b0_⟩ := opens_field Try.underlying24 0 _ rfl rfl (opens_int (P := Try.prog) (t := 3) Try.underlying3) (hf 0 _ rfl) hxl hz (o := 0) (s := 1) rfl (by kernel_rfl)
  obtain ⟨a1, k1_, b1_⟩ := opens_field Try.underlying24 1 _ rfl rfl (opens_string (P := Try.prog) (t := 9) Try.underlying9) (hf 1 _ rfl) hxl hz (o := 1) (s := 1) rfl (by kernel_rfl)
  obtain ⟨a2, k2_, b2_⟩ := opens_field Try.underlying24 2 _ rfl rfl (opens_string (P := Try.prog) (t := 9) Try.underlying9) (hf 2 _ rfl) hxl hz (o := 2) (s := 1) rfl (by kernel_rfl)
  have el : (cs.drop 2).take 1 = cs.drop 2 := List.take_of_length_le (by rw [List.length_drop, hlen, hcs] <;> decide)
  rw [el] at k2_
  exact ⟨⟨a0, a1, a2⟩, (pair_K 1 (by first | exact k0_ | simpa only [List.drop_drop, Nat.reduceAdd, List.drop_zero] using k0_) (pair_K 1 (by first | exact k1_ | simpa only [List.drop_drop, Nat.reduceAdd, List.drop_zero] using k1_) (by first | exact k2_ | simpa only [List.drop_drop, Nat.reduceAdd, List.drop_zero] using k2_))), b0_, b1_, b2_⟩
theorem op69 : Opens Try.prog k69 69 b69 := by
  intro H enc w base spare held fuel cs x hx hz
  obtain ⟨xs, n, _, hx', hlen, hxl, hf⟩ := DataW.trod_struct Try.underlying69 hx
  subst hx'
  have hcs : Try.prog.cellsOf 69 = 7 := by kernel_rfl
  obtain ⟨a0, k0_, b0_⟩ := opens_field Try.underlying69 0 _ rfl rfl (opens_int (P := Try.prog) (t := 3) Try.underlying3) (hf 0 _ rfl) hxl hz (o := 0) (s := 1) rfl (by kernel_rfl)
  obtain ⟨a1, k1_, b1_⟩ := opens_field Try.underlying69 1 _ rfl rfl (opens_int (P := Try.prog) (t := 3) Try.underlying3) (hf 1 _ rfl) hxl hz (o := 1) (s := 1) rfl (by kernel_rfl)
  obtain ⟨a2, k2_, b2_⟩ := opens_field Try.underlying69 2 _ rfl rfl (opens_int (P := Try.prog) (t := 3) Try.underlying3) (hf 2 _ rfl) hxl hz (o := 2) (s := 1) rfl (by kernel_rfl)
  obtain ⟨a3, k3_, b3_⟩ := opens_field Try.underlying69 3 _ rfl rfl (opens_int (P := Try.prog) (t := 3) Try.underlying3) (hf 3 _ rfl) hxl hz (o := 3) (s := 1) rfl (by kernel_rfl)
  obtain ⟨a4, k4_, b4_⟩ := opens_field Try.underlying69 4 _ rfl rfl op24 (hf 4 _ rfl) hxl hz (o := 4) (s := 3) rfl (by kernel_rfl)
  have el : (cs.drop 4).take 3 = cs.drop 4 := List.take_of_length_le (by rw [List.length_drop, hlen, hcs] <;> decide)
  rw [el] at k4_
  exact ⟨⟨a0, a1, a2, a3, a4⟩, (pair_K 1 (by first | exact k0_ | simpa only [List.drop_drop, Nat.reduceAdd, List.drop_zero] using k0_) (pair_K 1 (by first | exact k1_ | simpa only [List.drop_drop, Nat.reduceAdd, List.drop_zero] using k1_) (pair_K 1 (by first | exact k2_ | simpa only [List.drop_drop, Nat.reduceAdd, List.drop_zero] using k2_) (pair_K 1 (by first | exact k3_ | simpa only [List.drop_drop, Nat.reduceAdd, List.drop_zero] using k3_) (by first | exact k4_ | simpa only [List.drop_drop, Nat.reduceAdd, List.drop_zero] using k4_))))), b0_, b1_, b2_, b3_, b4_⟩
set_option maxHeartbeats 1000000 in
set_option maxRecDepth 100000 in
theorem lifted (os : Os) (started : os.Started) (H : Type) (enc : TypeId × Value → H) :
    ReturnsInHanded {} Try.checked os 11 .any (Rows.treeBackSpec.pre6 enc Try.prog Try.f11 Rows.treeBackRow.domain false) (Rows.treeBackSpec.post enc Try.prog Try.f11 false true false false) := by
  refine returnsInHanded_of_change_sized (C := Try.checked) own started (by kernel_rfl) Try.func11
    (ChangeSpec.witness6 (enc := enc) (C := Try.checked) false ⟨#[], #[.agg #[.slice none 0 0, .int .i64 0], .int .i64 0], []⟩ 8 (by kernel_rfl) (by kernel_rfl) (by kernel_rfl) (by kernel_rfl)) ?_
  intro W base args ds gs before hval0 hW hcnd hsz0 _
  have hsz : (DataW.weightsEach Try.prog (Try.f11.params.toList ++ Rows.treeBackSpec.plain.varTypes Try.prog) (ds ++ gs)).all (· ≤ reachBytes) = true := hsz0
  have hval : ∀ (j : Nat) t v, Try.f11.params[j]? = some t → args[j]? = some v → Value.okWide Try.prog W .any base t v := hval0
  have hW' := hW
  obtain ⟨p, q, hA0, hV, rfl, hfz, hnd⟩ := hW
  have hA : DataW.TrodAll enc Try.prog W 0 (fun _ => true) true Try.f11.params.toList args.toList ds p := hA0
  rw [Try.params11] at hA hval hsz
  obtain ⟨v0, vs0, d0, ds0, p0, q900, hargs, rfl, rfl, h0, r0⟩ := trodAll_cons hA
  obtain ⟨v1, vs1, d1, ds1, p1, q901, rfl, rfl, rfl, h1, r1⟩ := trodAll_cons r0
  obtain ⟨rfl, rfl, rfl⟩ := trodAll_nil r1
  obtain rfl : args = #[v0, v1] := by cases args; simp_all
  obtain ⟨rfl, rfl⟩ := trodVars_none hV
  obtain ⟨q0, rfl, _⟩ := okWide_struct Try.underlying46 (hval 0 46 v0 rfl rfl)
  have k0 := h0
  have lt0 : ∀ x ∈ p0, x.block < W.heap.size := by obtain ⟨m, hm⟩ := k0; exact DataW.trod_lt m _ _ _ hm
  obtain ⟨m0, hm0⟩ := h0
  have hz0 := weights_arg hsz (j := 0) (t := 46) rfl rfl
  obtain ⟨xs0, n0, _, hx0, hlen0, hxl0, hf0⟩ := DataW.trod_struct Try.underlying46 (show DataW.trod enc Try.prog W 0 (fun _ => true) true m0 46 q0.toList = some _ from hm0)
  rw [show d0 = _ from congrArg Prod.fst hx0] at hz0
  have hcs0 : Try.prog.cellsOf 46 = 2 := by kernel_rfl
  obtain ⟨x0_0, K0_0, B0_0⟩ := opens_field Try.underlying46 0 _ rfl rfl (opens_slice (t := 44) (b := 72) Try.underlying44 op69 (by kernel_rfl) (by kernel_rfl)) (hf0 0 _ rfl) hxl0 hz0 (o := 0) (s := 1) rfl (by kernel_rfl)
  obtain ⟨A0_0, c0_0, e0_0, hc0_0, hr0_0⟩ := K0_0
  obtain ⟨x0_1, K0_1, B0_1⟩ := opens_field Try.underlying46 1 _ rfl rfl (opens_int (P := Try.prog) (t := 3) Try.underlying3) (hf0 1 _ rfl) hxl0 hz0 (o := 1) (s := 1) rfl (by kernel_rfl)
  have e0_1 : (q0.toList.drop 1).take 1 = [.int .i64 x0_1] := K0_1
  have el0 : (q0.toList.drop 1).take 1 = q0.toList.drop 1 := List.take_of_length_le (by rw [List.length_drop, hlen0, hcs0] <;> decide)
  rw [el0] at e0_1
  obtain rfl : q0 = #[.slice A0_0 x0_0.length c0_0, .int .i64 x0_1] := Array.ext' (show q0.toList = [.slice A0_0 x0_0.length c0_0, .int .i64 x0_1] from (seg_ 1 (by simpa only [List.drop_drop, Nat.reduceAdd, List.drop_zero] using e0_0) (by simpa only [List.drop_drop, Nat.reduceAdd, List.drop_zero] using e0_1)))
  obtain ⟨x1, rfl, rfl, rfl, B1⟩ := open_int Try.underlying3 (hval 1 3 v1 rfl rfl) h1
  clear hA0 hval0 hsz0 hsz
  obtain ⟨k, hk⟩ := Pure.TreeBack x0_0 x0_1 x1 B0_0 B0_1 B1
  refine (calamuslaw11_TreeBack.calls k _ _ x0_0 x0_1 x1 true W hr0_0 hc0_0 hk).mono fun e W' ⟨he, bel_⟩ => ?_
  have bel : Below W.heap.size W W' := bel_
  subst he
  exact ⟨_, rfl, _, _, _, [], _, [], hW', trodAll_mk1 (shut_bool Try.underlying4 _), (trodAll_cons_mk (Below.trod laidOut (by kernel_rfl) (of_decide_eq_true (by kernel_rfl)) k0 bel lt0) (trodAll_cons_mk (shut_int Try.underlying3 B1) trodAll_mk0)), rfl, bel.frame _, fun h => by cases h⟩
theorem over : Rows.treeBackRow.holds Try.pinned (OpenSpec.ofChange Rows.treeBackSpec) :=
  OpenClaim.holds_of_wide 11 Try.f11 rfl rfl rfl rfl rfl rfl rfl ⟨rfl, rfl, rfl, rfl, rfl⟩ rfl rfl rfl rfl rfl (by kernel_rfl) Try.func11 (by kernel_rfl)
    (of_decide_eq_true (by kernel_rfl)) (by unfold Func.isWrapper; first | (rw [if_pos (by decide +kernel)]; kernel_rfl) | (rw [if_neg (by decide +kernel)]; exact ⟨rfl, rfl⟩))
    (fun os started H enc _ => lifted os started H enc)
theorem proved : Rows.TreeBackSaid := over
#print axioms proved
end Go.Proofs.Ytkiokimpblimcaa.treeBack
namespace Go.Proofs.Ytkiokimpblimcaa
/-- The row, under a short name, for the claim. -/
theorem treeBack_holds : Rows.TreeBackSaid := treeBack.proved
end Go.Proofs.Ytkiokimpblimcaa
