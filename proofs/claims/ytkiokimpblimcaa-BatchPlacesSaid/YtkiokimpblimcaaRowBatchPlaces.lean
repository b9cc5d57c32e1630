/- Of the law calamus/calamuslaw09.BatchPlaces: each function as a plain Lean function, with a proof that the call comes to it; the row. By wip/tpl/own_print.py. Conditions: none but the row's own. -/
import Derived.Test.YtkiokimpblimcaaRows
import Derived.Test.YtkiokimpblimcaaOBatchPlacesp
import Derived.Test.YtkiokimpblimcaaPureBatchPlaces
import Derived.WalkKit
import Derived.ProofKit
import Derived.OpenShut
import Derived.ShutString
import Derived.ChangeOld
import Derived.Below
import Derived.SizedLaws
import Derived.Test.YtkiokimpblimcaaWSized
namespace Go.Proofs.Ytkiokimpblimcaa.batchPlaces
open Go.ChangeShapes Go.WideShapes Go.ChangeAt Go.RowKit Go.Proofs.Ytkiokimpblimcaa.Open Go.Proofs.Ytkiokimpblimcaa.PBatchPlaces Go.Proofs.YtkiokimpblimcaaW.PrintWords
open Go.ChangeMaps (open_string shut_string)
set_option linter.unusedVariables false
theorem own : ownKnob Try.prog.godebug = none := by kernel_rfl
theorem laidOut : laidOutB Try.prog = true := by kernel_rfl
theorem op24 : Opens Try.prog k24 24 b24 := by
  intro H enc w base spare held fuel cs x hx hz
  obtain ⟨xs, n, _, hx', hlen, hxl, hf⟩ := DataW.trod_struct Try.underlying24 hx
  subst hx'
  have hcs : Try.prog.cellsOf 24 = 3 := by kernel_rfl
  obtain ⟨a0, k0_, b0_⟩ := opens_field Try.underlying24 0 _ rfl rfl (opens_int (P := Try.prog) (t := 3) Try.underlying3) (hf 0 _ rfl) hxl hz (o := 0) (s := 1) rfl (by kernel_rfl)
  obtain ⟨a1, k1_, b1_⟩ := opens_field Try.underlying24 1 _ rfl rfl (opens_string (P := Try.prog) (t := 9) Try.underlying9) (hf 1 _ rfl) hxl hz (o := 1) (s := 1) rfl (by kernel_rfl)
  obtain ⟨a2, k2_, b2_⟩ := opens_field Try.underlying24 2 _ rfl rfl (opens_string (P := Try.prog) (t := 9) Try.underlying9) (hf 2 _ rfl) hxl hz (o := 2) (s := 1) rfl (by kernel_rfl)
  have el : (cs.drop 2).take 1 = cs.drop 2 := List.take_of_length_le (by rw [List.length_drop, hlen, hcs] <;> decide)
  rw [el] at k2_
  exact ⟨⟨a0, a1, a2⟩, (pair_K 1 (by first | exact k0_ | simpa only [List.drop_drop, Nat.reduceAdd, List.drop_zero] using k0_) (pair_K 1 (by first | exact k1_ | simpa only [List.drop_drop, Nat.reduceAdd, List.drop_zero] using k1_) (by first | exact k2_ | simpa only [List.drop_drop, Nat.reduceAdd, List.drop_zero] using k2_))), b0_, b1_, b2_⟩
set_option maxHeartbeats 1000000 in
set_option maxRecDepth 100000 in
theorem lifted (os : Os) (started : os.Started) (H : Type) (enc : TypeId × Value → H) :
    ReturnsInHanded {} Try.checked os 7 .any (Rows.batchPlacesSpec.pre6 enc Try.prog Try.f7 Rows.batchPlacesRow.domain false) (Rows.batchPlacesSpec.post enc Try.prog Try.f7 false true false false) := by
  refine returnsInHanded_of_change_sized (C := Try.checked) own started (by kernel_rfl) Try.func7
    (ChangeSpec.witness6 (enc := enc) (C := Try.checked) false ⟨#[], #[.string ByteArray.empty, .slice none 0 0, .int .i64 0, .int .i64 0], []⟩ 8 (by kernel_rfl) (by kernel_rfl) (by kernel_rfl) (by kernel_rfl)) ?_
  intro W base args ds gs before hval0 hW hcnd hsz0 _
  have hsz : (DataW.weightsEach Try.prog (Try.f7.params.toList ++ Rows.batchPlacesSpec.plain.varTypes Try.prog) (ds ++ gs)).all (· ≤ reachBytes) = true := hsz0
  have hval : ∀ (j : Nat) t v, Try.f7.params[j]? = some t → args[j]? = some v → Value.okWide Try.prog W .any base t v := hval0
  have hW' := hW
  obtain ⟨p, q, hA0, hV, rfl, hfz, hnd⟩ := hW
  have hA : DataW.TrodAll enc Try.prog W 0 (fun _ => true) true Try.f7.params.toList args.toList ds p := hA0
  rw [Try.params7] at hA hval hsz
  obtain ⟨v0, vs0, d0, ds0, p0, q900, hargs, rfl, rfl, h0, r0⟩ := trodAll_cons hA
  obtain ⟨v1, vs1, d1, ds1, p1, q901, rfl, rfl, rfl, h1, r1⟩ := trodAll_cons r0
  obtain ⟨v2, vs2, d2, ds2, p2, q902, rfl, rfl, rfl, h2, r2⟩ := trodAll_cons r1
  obtain ⟨v3, vs3, d3, ds3, p3, q903, rfl, rfl, rfl, h3, r3⟩ := trodAll_cons r2
  obtain ⟨rfl, rfl, rfl⟩ := trodAll_nil r3
  obtain rfl : args = #[v0, v1, v2, v3] := by cases args; simp_all
  obtain ⟨rfl, rfl⟩ := trodVars_none hV
  obtain ⟨x0, rfl, rfl, rfl, y0⟩ := open_string Try.underlying9 (hval 0 9 v0 rfl rfl) h0
  have B0 : bStr x0 := by
    have z := sized_string hsz (j := 0) (t := 9) rfl rfl
    rw [Array.length_toList] at z
    exact z
  obtain ⟨A1, len1, c1, rfl⟩ := okWide_slice Try.underlying27 (hval 1 27 v1 rfl rfl)
  have k1 := h1
  have lt1 : ∀ x ∈ p1, x.block < W.heap.size := by obtain ⟨m, hm⟩ := k1; exact DataW.trod_lt m _ _ _ hm
  obtain ⟨x1, ⟨A1', c1', e1, hc1, hr1⟩, B1⟩ := opens_arg (opens_slice (t := 27) (b := 40) Try.underlying27 op24 (by kernel_rfl) (by kernel_rfl)) h1 hsz (j := 1) rfl rfl
  obtain ⟨rfl, rfl, rfl⟩ : A1 = A1' ∧ len1 = x1.length ∧ c1 = c1' := by simpa [Value.cells] using e1
  obtain ⟨x2, rfl, rfl, rfl, B2⟩ := open_int Try.underlying3 (hval 2 3 v2 rfl rfl) h2
  obtain ⟨x3, rfl, rfl, rfl, B3⟩ := open_int Try.underlying3 (hval 3 3 v3 rfl rfl) h3
  clear hA0 hval0 hsz0 hsz
  obtain ⟨k, hk⟩ := Pure.BatchPlaces x0 x1 x2 x3 B0 B1 B2 B3
  refine (calamuslaw09_BatchPlaces.calls k x0 _ _ x1 x2 x3 true W hr1 hc1 hk).mono fun e W' ⟨he, bel_⟩ => ?_
  have bel : Below W.heap.size W W' := bel_
  subst he
  exact ⟨_, rfl, _, _, _, [], _, [], hW', trodAll_mk1 (shut_bool Try.underlying4 _), (trodAll_cons_mk (shut_string Try.underlying9 y0) (trodAll_cons_mk (Below.trod laidOut (by kernel_rfl) (of_decide_eq_true (by kernel_rfl)) k1 bel lt1) (trodAll_cons_mk (shut_int Try.underlying3 B2) (trodAll_cons_mk (shut_int Try.underlying3 B3) trodAll_mk0)))), rfl, bel.frame _, fun h => by cases h⟩
theorem over : Rows.batchPlacesRow.holds Try.pinned (OpenSpec.ofChange Rows.batchPlacesSpec) :=
  OpenClaim.holds_of_wide 7 Try.f7 rfl rfl rfl rfl rfl rfl rfl ⟨rfl, rfl, rfl, rfl, rfl⟩ rfl rfl rfl rfl rfl (by kernel_rfl) Try.func7 (by kernel_rfl)
    (of_decide_eq_true (by kernel_rfl)) (by unfold Func.isWrapper; first | (rw [if_pos (by decide +kernel)]; kernel_rfl) | (rw [if_neg (by decide +kernel)]; exact ⟨rfl, rfl⟩))
    (fun os started H enc _ => lifted os started H enc)
theorem proved : Rows.BatchPlacesSaid := over
#print axioms proved
end Go.Proofs.Ytkiokimpblimcaa.batchPlaces
namespace Go.Proofs.Ytkiokimpblimcaa
/-- The row, under a short name, for the claim. -/
theorem batchPlaces_holds : Rows.BatchPlacesSaid := batchPlaces.proved
end Go.Proofs.Ytkiokimpblimcaa
