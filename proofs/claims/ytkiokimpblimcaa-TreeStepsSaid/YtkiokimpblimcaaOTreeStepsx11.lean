/- Of the law calamus/calamuslaw11.TreeSteps: what each function that it reaches tells, as a plain Lean function with a proof that the call comes to it; the row out of that. By a program of this repo (wip/tpl/own_print.py). Conditions: none but the row's own. -/
import Derived.Test.YtkiokimpblimcaaOTreeStepsx0
import Derived.Test.YtkiokimpblimcaaOTreeStepsx6
import Derived.Test.YtkiokimpblimcaaOTreeStepsx7
import Derived.Test.YtkiokimpblimcaaOTreeStepsx9
import Derived.Test.YtkiokimpblimcaaOTreeStepsx10
namespace Go.Proofs.Ytkiokimpblimcaa.PTreeSteps
open Go.RowKit Go.Proofs.YtkiokimpblimcaaW.PrintWords Go.Proofs.YtkiokimpblimcaaW.PrintLast Go.Proofs.YtkiokimpblimcaaW.PrintMore
attribute [local go_sem] max2_int min2_int max_two min_two max_three min_three max_four min_four   -- for this text's walks alone
set_option linter.unusedVariables false
set_option linter.unusedSimpArgs false

/-! ### calamuslaw11_TreeSteps: function 9 -/
mutual
def calamuslaw11_TreeSteps.j0 : Nat → Int → Bool → List (S69) → Int → Option (Bool)
 | 0, _, _, _, _ => none
 | k + 1, x1, x43, x328000, x328001 => if x43 = true then (some false) else ((tree_Redo.f k x328000 x328001).bind fun bt344 => ((calamusref11_Redo.f k x328000 x328001).bind fun bt350 => ((calamusref11_Same.f k bt344.1 bt344.2.1 bt350.1 bt350.2.1).bind fun t356 => (if t356 = true then (if bt344.2.2.1 = bt350.2.2.1 then (if (bt344.2.2.2 != bt350.2.2.2) = true then (calamuslaw11_TreeSteps.j1 k x1 true x328000 x328001) else ((tree_Kids.f k x328000 x328001 x1).bind fun t357 => ((calamusref11_Kids.f k x328000 x328001 x1).bind fun t360 => ((calamusref01_Same.f k t357 t360).bind fun t363 => (calamuslaw11_TreeSteps.j1 k x1 (!t363) x328000 x328001))))) else (calamuslaw11_TreeSteps.j1 k x1 true x328000 x328001)) else (calamuslaw11_TreeSteps.j1 k x1 true x328000 x328001)))))
def calamuslaw11_TreeSteps.j1 : Nat → Int → Bool → List (S69) → Int → Option (Bool)
 | 0, _, _, _, _ => none
 | k + 1, x1, x79, x328000, x328001 => if x79 = true then (some false) else ((tree_Choose.f k x328000 x328001 x1).bind fun bt364 => ((calamusref11_Choose.f k x328000 x328001 x1).bind fun bt369 => ((calamusref11_Same.f k bt364.1 bt364.2.1 bt369.1 bt369.2.1).bind fun t374 => (if t374 = true then (if bt364.2.2 = bt369.2.2 then ((calamuslaw11_lives.f k).bind fun t375 => (some t375)) else (some false)) else (some false)))))
end
def calamuslaw11_TreeSteps.f (k : Nat) (l0_0 : List (S69)) (a0_1 : Int) (a1 : Int) : Option (Bool) := if (l0_0.length : Int) > 1100 then ((calamuslaw11_lives.f k).bind fun t328 => (some t328)) else ((tree_Undo.f k l0_0 a0_1).bind fun bt329 => ((calamusref11_Undo.f k l0_0 a0_1).bind fun bt336 => ((calamusref11_Same.f k bt329.1 bt329.2.1 bt336.1 bt336.2.1).bind fun t343 => (if t343 = true then (if bt329.2.2.1 = bt336.2.2.1 then (calamuslaw11_TreeSteps.j0 k a1 (bt329.2.2.2 != bt336.2.2.2) l0_0 a0_1) else (calamuslaw11_TreeSteps.j0 k a1 true l0_0 a0_1)) else (calamuslaw11_TreeSteps.j0 k a1 true l0_0 a0_1)))))
theorem calamuslaw11_TreeSteps.mono_l : ∀ k, (∀ y0 y1 y2 y3, LeO (calamuslaw11_TreeSteps.j0 k y0 y1 y2 y3) (calamuslaw11_TreeSteps.j0 (k + 1) y0 y1 y2 y3)) ∧ (∀ y0 y1 y2 y3, LeO (calamuslaw11_TreeSteps.j1 k y0 y1 y2 y3) (calamuslaw11_TreeSteps.j1 (k + 1) y0 y1 y2 y3))
 | 0 => ⟨fun _ _ _ _ r h => by simp [calamuslaw11_TreeSteps.j0] at h, fun _ _ _ _ r h => by simp [calamuslaw11_TreeSteps.j1] at h⟩
 | k + 1 => by
  obtain ⟨ih0, ih1⟩ := calamuslaw11_TreeSteps.mono_l k
  refine ⟨?_, ?_⟩
  ·intro y0 y1 y2 y3
   unfold calamuslaw11_TreeSteps.j0
   repeat' first
   | (with_reducible exact ih0 _ _ _ _)
   | (with_reducible exact ih1 _ _ _ _)
   | (with_reducible exact calamuslaw11_lives.mono _)
   | (with_reducible exact calamusref01_Same.mono _ _ _)
   | (with_reducible exact calamusref11_Choose.mono _ _ _ _)
   | (with_reducible exact calamusref11_Kids.mono _ _ _ _)
   | (with_reducible exact calamusref11_Redo.mono _ _ _)
   | (with_reducible exact calamusref11_Same.mono _ _ _ _ _)
   | (with_reducible exact calamusref11_Undo.mono _ _ _)
   | (with_reducible exact tree_Choose.mono _ _ _ _)
   | (with_reducible exact tree_Kids.mono _ _ _ _)
   | (with_reducible exact tree_Redo.mono _ _ _)
   | (with_reducible exact tree_Undo.mono _ _ _)
   | (with_reducible exact LeO.refl _)
   | (with_reducible exact LeO.none _)
   | (with_reducible refine LeO.ite ?_ ?_)
   | (with_reducible refine LeO.bind ?_ (fun _ => ?_))
   | exact ih0 _ _ _ _
   | exact ih1 _ _ _ _
   | exact calamuslaw11_lives.mono _
   | exact calamusref01_Same.mono _ _ _
   | exact calamusref11_Choose.mono _ _ _ _
   | exact calamusref11_Kids.mono _ _ _ _
   | exact calamusref11_Redo.mono _ _ _
   | exact calamusref11_Same.mono _ _ _ _ _
   | exact calamusref11_Undo.mono _ _ _
   | exact tree_Choose.mono _ _ _ _
   | exact tree_Kids.mono _ _ _ _
   | exact tree_Redo.mono _ _ _
   | exact tree_Undo.mono _ _ _
   | exact LeO.none _
   | refine LeO.ite ?_ ?_
   | refine LeO.bind ?_ (fun _ => ?_)
  ·intro y0 y1 y2 y3
   unfold calamuslaw11_TreeSteps.j1
   repeat' first
   | (with_reducible exact ih0 _ _ _ _)
   | (with_reducible exact ih1 _ _ _ _)
   | (with_reducible exact calamuslaw11_lives.mono _)
   | (with_reducible exact calamusref01_Same.mono _ _ _)
   | (with_reducible exact calamusref11_Choose.mono _ _ _ _)
   | (with_reducible exact calamusref11_Kids.mono _ _ _ _)
   | (with_reducible exact calamusref11_Redo.mono _ _ _)
   | (with_reducible exact calamusref11_Same.mono _ _ _ _ _)
   | (with_reducible exact calamusref11_Undo.mono _ _ _)
   | (with_reducible exact tree_Choose.mono _ _ _ _)
   | (with_reducible exact tree_Kids.mono _ _ _ _)
   | (with_reducible exact tree_Redo.mono _ _ _)
   | (with_reducible exact tree_Undo.mono _ _ _)
   | (with_reducible exact LeO.refl _)
   | (with_reducible exact LeO.none _)
   | (with_reducible refine LeO.ite ?_ ?_)
   | (with_reducible refine LeO.bind ?_ (fun _ => ?_))
   | exact ih0 _ _ _ _
   | exact ih1 _ _ _ _
   | exact calamuslaw11_lives.mono _
   | exact calamusref01_Same.mono _ _ _
   | exact calamusref11_Choose.mono _ _ _ _
   | exact calamusref11_Kids.mono _ _ _ _
   | exact calamusref11_Redo.mono _ _ _
   | exact calamusref11_Same.mono _ _ _ _ _
   | exact calamusref11_Undo.mono _ _ _
   | exact tree_Choose.mono _ _ _ _
   | exact tree_Kids.mono _ _ _ _
   | exact tree_Redo.mono _ _ _
   | exact tree_Undo.mono _ _ _
   | exact LeO.none _
   | refine LeO.ite ?_ ?_
   | refine LeO.bind ?_ (fun _ => ?_)
theorem calamuslaw11_TreeSteps.mono : ∀ a0 a1 a2 k, LeO (calamuslaw11_TreeSteps.f k a0 a1 a2) (calamuslaw11_TreeSteps.f (k + 1) a0 a1 a2) := by
 intro a0 a1 a2 k
 obtain ⟨ih0, ih1⟩ := calamuslaw11_TreeSteps.mono_l k
 unfold calamuslaw11_TreeSteps.f
 repeat' first
   | (with_reducible exact ih0 _ _ _ _)
   | (with_reducible exact ih1 _ _ _ _)
   | (with_reducible exact calamuslaw11_lives.mono _)
   | (with_reducible exact calamusref01_Same.mono _ _ _)
   | (with_reducible exact calamusref11_Choose.mono _ _ _ _)
   | (with_reducible exact calamusref11_Kids.mono _ _ _ _)
   | (with_reducible exact calamusref11_Redo.mono _ _ _)
   | (with_reducible exact calamusref11_Same.mono _ _ _ _ _)
   | (with_reducible exact calamusref11_Undo.mono _ _ _)
   | (with_reducible exact tree_Choose.mono _ _ _ _)
   | (with_reducible exact tree_Kids.mono _ _ _ _)
   | (with_reducible exact tree_Redo.mono _ _ _)
   | (with_reducible exact tree_Undo.mono _ _ _)
   | (with_reducible exact LeO.refl _)
   | (with_reducible exact LeO.none _)
   | (with_reducible refine LeO.ite ?_ ?_)
   | (with_reducible refine LeO.bind ?_ (fun _ => ?_))
   | exact ih0 _ _ _ _
   | exact ih1 _ _ _ _
   | exact calamuslaw11_lives.mono _
   | exact calamusref01_Same.mono _ _ _
   | exact calamusref11_Choose.mono _ _ _ _
   | exact calamusref11_Kids.mono _ _ _ _
   | exact calamusref11_Redo.mono _ _ _
   | exact calamusref11_Same.mono _ _ _ _ _
   | exact calamusref11_Undo.mono _ _ _
   | exact tree_Choose.mono _ _ _ _
   | exact tree_Kids.mono _ _ _ _
   | exact tree_Redo.mono _ _ _
   | exact tree_Undo.mono _ _ _
   | exact LeO.none _
   | refine LeO.ite ?_ ?_
   | refine LeO.bind ?_ (fun _ => ?_)
def calamuslaw11_TreeSteps.T9 : Bool × List (List Nat × List Nat) := (true, [([], []), ([], []), ([0, 1], [0, 1]), ([2], [2]), ([3, 2], [3]), ([4], [4]), ([4], [4]), ([5, 6, 4], [4, 5, 6]), ([4, 7], [4, 7]), ([8, 4], [8]), ([9], [9]), ([9], [9]), ([10, 11, 9], [9, 10, 11]), ([9, 12], [9, 12]), ([13, 9], [13]), ([14], [14]), ([14], [14]), ([15, 16, 14, 14], [14, 15, 16]), ([14], [14]), ([14], [14]), ([18, 19, 17, 14], [14, 18, 19]), ([17, 20, 20, 14], [14, 17, 20]), ([21, 14], [14, 21]), ([14, 22], [14, 22])])
def calamuslaw11_TreeSteps.B9 : List Nat := [0, 0, 3, 7, 15, 31, 31, 127, 255, 511, 1023, 1023, 4095, 8191, 16383, 32767, 32767, 131071, 32767, 32767, 1048575, 2097151, 4194303, 8388607]
theorem calamuslaw11_TreeSteps.tab9 : rtab .any (opsOf Try.f9 9) = calamuslaw11_TreeSteps.T9 := by kernel_rfl
theorem calamuslaw11_TreeSteps.bits9 : waitsOk calamuslaw11_TreeSteps.T9.2 calamuslaw11_TreeSteps.B9 = true := by kernel_rfl
set_option maxHeartbeats 8000000 in
set_option maxRecDepth 100000 in
theorem calamuslaw11_TreeSteps.calls (k : Nat) (A0_0 : Option Addr) (c0_0 : Nat) (l0_0 : List (S69)) (a0_1 : Int) (a1 : Int) (r : Bool) (w : World) (hr0_0 : Kd.C k69 w A0_0 l0_0.length l0_0) (hc0_0 : l0_0.length ≤ c0_0) (h : calamuslaw11_TreeSteps.f k l0_0 a0_1 a1 = some r) (hr_ : r = true := by rfl) :
  Calls Try.prog 9 #[.agg #[.slice A0_0 l0_0.length c0_0, .int .i64 a0_1], .int .i64 a1] w fun e w' => e = .returned (.bool r) ∧ Below w.heap.size w w' := by
 have hu46 := Try.underlying46
 have HR0_0 := Aside0.mk hr0_0
 have HC0_0 := Aside0.mk hc0_0
 clear hr0_0 hc0_0
 have HB := Aside0.mk (Below.refl w.heap.size w)
 have H : (if (l0_0.length : Int) > 1100 then ((calamuslaw11_lives.f k).bind fun t328 => (some t328)) else ((tree_Undo.f k l0_0 a0_1).bind fun bt329 => ((calamusref11_Undo.f k l0_0 a0_1).bind fun bt336 => ((calamusref11_Same.f k bt329.1 bt329.2.1 bt336.1 bt336.2.1).bind fun t343 => (if t343 = true then (if bt329.2.2.1 = bt336.2.2.1 then (calamuslaw11_TreeSteps.j0 k a1 (bt329.2.2.2 != bt336.2.2.2) l0_0 a0_1) else (calamuslaw11_TreeSteps.j0 k a1 true l0_0 a0_1)) else (calamuslaw11_TreeSteps.j0 k a1 true l0_0 a0_1)))))) = some r := h
 clear h
 by_cases c3 : (l0_0.length : Int) > 1100
 ·rw [if_pos c3] at H
  have c3b0 : decide (1100 < (l0_0.length : Int)) = true := decide_eq_true c3
  have c3b1 : decide (1100 < l0_0.length) = true := decide_eq_true (by omega)
  clear c3
  replace H := Option.bind_eq_some_iff.mp H
  obtain ⟨t328, A40, H⟩ := H
  replace H : (some t328) = some r := H
  have A4 := Aside0.mk A40
  clear A40
  obtain rfl := Option.some.inj H
  go_enter Try.func9, Try.ntmps9
  go_wp2_with (first | ((with_reducible refine gate_dst (N := 2) rfl ?_); refine box_event ?hg (N := 2) ?hd (cs := #[.slice A0_0 l0_0.length c0_0, .int .i64 a0_1]) (t := 46) ?hr ?_; (case hd => rfl); (case hg => rfl); (case hr => first | (go_simp; done) | (go_simp; rfl)); intro gb327 hg w5 hbox hb; have n0_ := bs_ HB hb; have n1_ := Aside0.mk (hbox); have n2_ := gw_ HB hg; have n3_ := gw_ HB hg; clear HB; have HB := n0_; have BK327 := n1_; have GW327 := n2_; have GE327 := n3_; clear n0_ n1_ n2_ n3_; clear hb hbox hg; obtain ⟨hcz6_0, hcz6_1, hfz6_0, hfz6_1⟩ := bc2_ BK327) | ((with_reducible refine gate_callee (f := 33) rfl ?_); refine goesL_ (some 17) rfl rfl Try.func33 (by kernel_rfl) rfl #[] rfl (by (try simp only [List.map_toArray, List.map_cons, List.map_nil]); first | done | rfl | (simp only [List.length_drop, List.length_take]; rfl)) ?_; (with_reducible refine (calamuslaw11_lives.calls k  t328 _ A4.out).mono ?_); rintro e w7 ⟨rfl, hb⟩; refine ⟨_, rfl, ?_⟩; have n0_ := bb_ BK327 hb; have n1_ := bs_ HB hb; clear BK327; clear HB; have BK327 := n0_; have HB := n1_; clear n0_ n1_; (try clear hb); (try clear hb2); (try clear hk); (try clear hi)))
  go_ret
  exact ⟨by first | rfl | (simp [errW_none, errW_some] <;> rfl) | (simp [*, errW_none, errW_some] <;> rfl), hb_ HB⟩
 ·rw [if_neg c3] at H
  have c3b0 : decide (1100 < (l0_0.length : Int)) = false := decide_eq_false c3
  have c3b1 : decide (1100 < l0_0.length) = false := decide_eq_false (by omega)
  clear c3
  replace H := Option.bind_eq_some_iff.mp H
  obtain ⟨⟨t329, t332, t333, t334⟩, A80, H⟩ := H
  replace H : ((calamusref11_Undo.f k l0_0 a0_1).bind fun bt336 => ((calamusref11_Same.f k t329 t332 bt336.1 bt336.2.1).bind fun t343 => (if t343 = true then (if t333 = bt336.2.2.1 then (calamuslaw11_TreeSteps.j0 k a1 (t334 != bt336.2.2.2) l0_0 a0_1) else (calamuslaw11_TreeSteps.j0 k a1 true l0_0 a0_1)) else (calamuslaw11_TreeSteps.j0 k a1 true l0_0 a0_1)))) = some r := H
  have A8 := Aside0.mk A80
  clear A80
  replace H := Option.bind_eq_some_iff.mp H
  obtain ⟨⟨t336, t339, t340, t341⟩, A90, H⟩ := H
  replace H : ((calamusref11_Same.f k t329 t332 t336 t339).bind fun t343 => (if t343 = true then (if t333 = t340 then (calamuslaw11_TreeSteps.j0 k a1 (t334 != t341) l0_0 a0_1) else (calamuslaw11_TreeSteps.j0 k a1 true l0_0 a0_1)) else (calamuslaw11_TreeSteps.j0 k a1 true l0_0 a0_1))) = some r := H
  have A9 := Aside0.mk A90
  clear A90
  have HC10 := Aside0.mk H
  clear H
  go_enter Try.func9, Try.ntmps9
  go_upto_region 5 with (first | ((with_reducible refine gate_dst (N := 2) rfl ?_); refine box_event ?hg (N := 2) ?hd (cs := #[.slice A0_0 l0_0.length c0_0, .int .i64 a0_1]) (t := 46) ?hr ?_; (case hd => rfl); (case hg => rfl); (case hr => first | (go_simp; done) | (go_simp; rfl)); intro gb327 hg w11 hbox hb; have n0_ := bs_ HB hb; have n1_ := Aside0.mk (hbox); have n2_ := gw_ HB hg; have n3_ := gw_ HB hg; clear HB; have HB := n0_; have BK327 := n1_; have GW327 := n2_; have GE327 := n3_; clear n0_ n1_ n2_ n3_; clear hb hbox hg; obtain ⟨hcz12_0, hcz12_1, hfz12_0, hfz12_1⟩ := bc2_ BK327) | ((with_reducible refine gate_callee (f := 42) rfl ?_); refine goesL_ (some 20) rfl rfl Try.func42 (by kernel_rfl) rfl #[.agg #[.slice A0_0 l0_0.length c0_0, .int .i64 a0_1]] rfl (by (try simp only [List.map_toArray, List.map_cons, List.map_nil]); first | done | rfl | (simp only [List.length_drop, List.length_take]; rfl)) ?_; (with_reducible refine (tree_Undo.calls k _ _ l0_0 a0_1 t329 t332 t333 t334 _ ?side1 ?side2 A8.out).mono ?_); (case side1 => exact cw_ (Kd.C_below HR0_0.out HB.out)); (case side2 => exact HC0_0.out); rintro e w13 ⟨v330, rfl, ho0, hb⟩; refine ⟨_, rfl, ?_⟩; have n0_ := Aside0.mk (Kd.R_lower ho0 (below_size (hb_ HB))); have n1_ := bb_ BK327 hb; have n2_ := bs_ HB hb; clear BK327; clear HB; have HO331 := n0_; have BK327 := n1_; have HB := n2_; clear n0_ n1_ n2_; (try clear hb); (try clear hb2); (try clear hk); (try clear hi); (try clear ho0)) | ((with_reducible refine gate_dst (N := 5) rfl ?_); refine box_event ?hg (N := 5) ?hd (cs := #[.slice none 0 0, .int .i64 0]) (t := 46) ?hr ?_; (case hd => rfl); (case hg => rfl); (case hr => first | (go_simp; done) | (go_simp; rfl)); intro gb335 hg w14 hbox hb; have n0_ := Aside0.mk (Kd.R_below (rw_ HO331.out) hb); have n1_ := bb_ BK327 hb; have n2_ := bs_ HB hb; have n3_ := Aside0.mk (hbox); have n4_ := gw_ HB hg; have n5_ := gw_ HB hg; have n6_ := ne_ BK327 hg; have n7_ := en_ BK327 hg; clear HO331; clear BK327; clear HB; have HO331 := n0_; have BK327 := n1_; have HB := n2_; have BK335 := n3_; have GW335 := n4_; have GE335 := n5_; have NB327_335 := n6_; have NB335_327 := n7_; clear n0_ n1_ n2_ n3_ n4_ n5_ n6_ n7_; clear hb hbox hg; obtain ⟨Ao15, co15, eo15⟩ := Kd.R_slice HO331.out; subst eo15; have hnb16 := NB335_327.out; have hnc16 := NB327_335.out; obtain ⟨hcz17_0, hcz17_1, hfz17_0, hfz17_1⟩ := bc2_ BK335; obtain ⟨hcz18_0, hcz18_1, hfz18_0, hfz18_1⟩ := bc2_ BK327) | ((with_reducible refine gate_callee (f := 43) rfl ?_); refine goesL_ (some 26) rfl rfl Try.func43 (by kernel_rfl) rfl #[.agg #[.slice A0_0 l0_0.length c0_0, .int .i64 a0_1]] rfl (by (try simp only [List.map_toArray, List.map_cons, List.map_nil]); first | done | rfl | (simp only [List.length_drop, List.length_take]; rfl)) ?_; (with_reducible refine (calamusref11_Undo.calls k _ _ l0_0 a0_1 t336 t339 t340 t341 _ ?side1 ?side2 A9.out).mono ?_); (case side1 => exact Kd.C_below HR0_0.out (hb_ HB)); (case side2 => exact HC0_0.out); rintro e w19 ⟨v337, rfl, ho0, hb⟩; refine ⟨_, rfl, ?_⟩; have n0_ := Aside0.mk (Kd.R_elder' (by (with_reducible repeat (first | apply Kd.R_alloc | apply Kd.R_drewN | apply Kd.R_drew)); exact (Kd.R_mono (Kd.R_far (p := ⟨gb335, 1, none⟩) (Kd.R_far (p := ⟨gb335, 0, none⟩) (Kd.R_types HO331.out BK335.out (by decide)) (fun _ hk => hk.2) (.slice Ao15 t329.length co15)) (fun _ hk => hk.2) (.int .i64 t332)) (fun _ h_ => h_.1))) (Kd.R_base ho0) hb); have n1_ := Aside0.mk (Kd.R_lower (Kd.R_new' ho0 (Kd.R_lt (by (with_reducible repeat (first | apply Kd.R_alloc | apply Kd.R_drewN | apply Kd.R_drew)); exact (Kd.R_mono (Kd.R_far (p := ⟨gb335, 1, none⟩) (Kd.R_far (p := ⟨gb335, 0, none⟩) (Kd.R_types HO331.out BK335.out (by decide)) (fun _ hk => hk.2) (.slice Ao15 t329.length co15)) (fun _ hk => hk.2) (.int .i64 t332)) (fun _ h_ => h_.1))))) (below_size (hb_ HB))); have n2_ := Aside0.mk (blk_below (g := gb327) (o := .cells #[.slice A0_0 l0_0.length c0_0, .int .i64 a0_1] 46 (0, 0)) (bp_ BK327.out) hb); have n3_ := Aside0.mk (blk_below (g := gb335) (o := .cells #[.slice Ao15 t329.length co15, .int .i64 t332] 46 (0, 0)) (bp_ BK335.out) hb); have n4_ := bs_ HB hb; clear HO331; clear BK327; clear BK335; clear HB; have HO331 := n0_; have HO338 := n1_; have BK327 := n2_; have BK335 := n3_; have HB := n4_; clear n0_ n1_ n2_ n3_ n4_; (try clear hb); (try clear hb2); (try clear hk); (try clear hi); (try clear ho0)) | ((with_reducible refine gate_dst (N := 8) rfl ?_); refine box_event ?hg (N := 8) ?hd (cs := #[.slice none 0 0, .int .i64 0]) (t := 46) ?hr ?_; (case hd => rfl); (case hg => rfl); (case hr => first | (go_simp; done) | (go_simp; rfl)); intro gb342 hg w20 hbox hb; have n0_ := Aside0.mk (Kd.R_below (rw_ HO331.out) hb); have n1_ := Aside0.mk (Kd.R_below (rw_ HO338.out) hb); have n2_ := bb_ BK327 hb; have n3_ := bb_ BK335 hb; have n4_ := bs_ HB hb; have n5_ := Aside0.mk (hbox); have n6_ := gw_ HB hg; have n7_ := gw_ HB hg; have n8_ := ne_ BK327 hg; have n9_ := en_ BK327 hg; have n10_ := ne_ BK335 hg; have n11_ := en_ BK335 hg; clear HO331; clear HO338; clear BK327; clear BK335; clear HB; have HO331 := n0_; have HO338 := n1_; have BK327 := n2_; have BK335 := n3_; have HB := n4_; have BK342 := n5_; have GW342 := n6_; have GE342 := n7_; have NB327_342 := n8_; have NB342_327 := n9_; have NB335_342 := n10_; have NB342_335 := n11_; clear n0_ n1_ n2_ n3_ n4_ n5_ n6_ n7_ n8_ n9_ n10_ n11_; clear hb hbox hg; obtain ⟨Ao21, co21, eo21⟩ := Kd.R_slice HO338.out; subst eo21; have hnb22 := NB342_327.out; have hnc22 := NB327_342.out; have hnb23 := NB342_335.out; have hnc23 := NB335_342.out; obtain ⟨hcz24_0, hcz24_1, hfz24_0, hfz24_1⟩ := bc2_ BK342))
  (try simp only [Act.put, List.setIfInBounds_toArray, List.set_cons_zero, List.set_cons_succ])
  go_cut [43] (fun v43 wc => ∃ (kq : Nat) (x43_9 : Bool), v43 = .bool x43_9 ∧ Aside0 (calamuslaw11_TreeSteps.j0 kq a1 x43_9 l0_0 a0_1 = some r) ∧ Aside0 (kq ≤ k) ∧ Aside0 (Kd.R k69 69 wc w.heap.size (fun k_ => some k_ ≠ ((.slice Ao21 t336.length co21) : Value).ownBlock) (.slice Ao15 t329.length co15) t329) ∧ Aside0 (Kd.R k69 69 wc w.heap.size (fun k_ => some k_ ≠ ((.slice Ao15 t329.length co15) : Value).ownBlock) (.slice Ao21 t336.length co21) t336) ∧ Aside0 (wc.heap[gb327]? = some (.cells #[(.slice A0_0 l0_0.length c0_0), .int .i64 a0_1] 46 (0, 0))) ∧ Aside0 (wc.heap[gb335]? = some (.cells #[(.slice Ao15 t329.length co15), .int .i64 t332] 46 (0, 0))) ∧ Aside0 (wc.heap[gb342]? = some (.cells #[(.slice Ao21 t336.length co21), .int .i64 t339] 46 (0, 0))) ∧ Aside0 (Below w.heap.size w wc))
  case first =>
   have H := HC10.out
   clear HC10
   replace H := Option.bind_eq_some_iff.mp H
   obtain ⟨t343, A250, H⟩ := H
   replace H : (if t343 = true then (if t333 = t340 then (calamuslaw11_TreeSteps.j0 k a1 (t334 != t341) l0_0 a0_1) else (calamuslaw11_TreeSteps.j0 k a1 true l0_0 a0_1)) else (calamuslaw11_TreeSteps.j0 k a1 true l0_0 a0_1)) = some r := H
   have A25 := Aside0.mk A250
   clear A250
   by_cases c26 : t343 = true
   ·subst c26
    have H1 : (if t333 = t340 then (calamuslaw11_TreeSteps.j0 k a1 (t334 != t341) l0_0 a0_1) else (calamuslaw11_TreeSteps.j0 k a1 true l0_0 a0_1)) = some r := by rw [if_pos rfl] at H; exact H
    clear H
    have H := H1
    clear H1
    by_cases c27 : t333 = t340
    ·rw [if_pos c27] at H
     have c27b0 : (t333 == t340) = true := beq_iff_eq.mpr c27
     have c27b1 : (t333 != t340) = false := bne_eq_false_iff_eq.mpr c27
     clear c27
     (first | rw [c27b0] | (simp only [i64_w, i32_w]; rw [c27b0]) | skip)
     have H' := Aside0.mk H
     clear H
     have hnb28 := NB335_327.out
     have hnc28 := NB327_335.out
     have hnb29 := NB335_342.out
     have hnc29 := NB342_335.out
     obtain ⟨hcz30_0, hcz30_1, hfz30_0, hfz30_1⟩ := bc2_ BK335
     have hnb31 := NB342_327.out
     have hnc31 := NB327_342.out
     obtain ⟨hcz32_0, hcz32_1, hfz32_0, hfz32_1⟩ := bc2_ BK342
     go_wp2_with (first | ((with_reducible refine gate_callee (f := 38) rfl ?_); refine goesL_ (some 32) rfl rfl Try.func38 (by kernel_rfl) rfl #[.agg #[.slice Ao15 t329.length co15, .int .i64 t332], .agg #[.slice Ao21 t336.length co21, .int .i64 t339]] rfl (by (try simp only [List.map_toArray, List.map_cons, List.map_nil]); first | done | rfl | (simp only [List.length_drop, List.length_take]; rfl)) ?_; (with_reducible refine (calamusref11_Same.calls k _ _ t329 t332 _ _ t336 t339 true _ ?side1 ?side2 ?side3 ?side4 A25.out).mono ?_); (case side1 => refine (Kd.R_reads' (e := 69) (base := w.heap.size) (ok := fun k_ => (True ∧ some k_ ≠ (.slice Ao21 t336.length co21 : Value).ownBlock)) (n := t329.length) (c := co15) ?_).2.2; exact (by (with_reducible repeat (first | apply Kd.R_alloc | apply Kd.R_drewN | apply Kd.R_drew)); exact (Kd.R_mono (Kd.R_far (p := ⟨gb342, 1, none⟩) (Kd.R_far (p := ⟨gb342, 0, none⟩) (Kd.R_types HO331.out BK342.out (by decide)) (fun _ hk => hk.2) (.slice Ao21 t336.length co21)) (fun _ hk => hk.2) (.int .i64 t339)) (fun _ h_ => h_.1)))); (case side2 => exact (Kd.R_reads' HO331.out).2.1); (case side3 => refine (Kd.R_reads' (e := 69) (base := w.heap.size) (ok := fun k_ => (True ∧ some k_ ≠ (.slice Ao15 t329.length co15 : Value).ownBlock)) (n := t336.length) (c := co21) ?_).2.2; exact (by (with_reducible repeat (first | apply Kd.R_alloc | apply Kd.R_drewN | apply Kd.R_drew)); exact (Kd.R_mono (Kd.R_far (p := ⟨gb342, 1, none⟩) (Kd.R_far (p := ⟨gb342, 0, none⟩) (Kd.R_types HO338.out BK342.out (by decide)) (fun _ hk => hk.2) (.slice Ao21 t336.length co21)) (fun _ hk => hk.2) (.int .i64 t339)) (fun _ h_ => h_.1)))); (case side4 => exact (Kd.R_reads' HO338.out).2.1); rintro e w33 ⟨rfl, hb⟩; refine ⟨_, rfl, ?_⟩; have n0_ := Aside0.mk (Kd.R_below (by (with_reducible repeat (first | apply Kd.R_alloc | apply Kd.R_drewN | apply Kd.R_drew)); exact (Kd.R_mono (Kd.R_far (p := ⟨gb342, 1, none⟩) (Kd.R_far (p := ⟨gb342, 0, none⟩) (Kd.R_types HO331.out BK342.out (by decide)) (fun _ hk => hk.2) (.slice Ao21 t336.length co21)) (fun _ hk => hk.2) (.int .i64 t339)) (fun _ h_ => h_.1))) hb); have n1_ := Aside0.mk (Kd.R_below (by (with_reducible repeat (first | apply Kd.R_alloc | apply Kd.R_drewN | apply Kd.R_drew)); exact (Kd.R_mono (Kd.R_far (p := ⟨gb342, 1, none⟩) (Kd.R_far (p := ⟨gb342, 0, none⟩) (Kd.R_types HO338.out BK342.out (by decide)) (fun _ hk => hk.2) (.slice Ao21 t336.length co21)) (fun _ hk => hk.2) (.int .i64 t339)) (fun _ h_ => h_.1))) hb); have n2_ := Aside0.mk (blk_below (g := gb327) (o := .cells #[.slice A0_0 l0_0.length c0_0, .int .i64 a0_1] 46 (0, 0)) (bp_ BK327.out) hb); have n3_ := Aside0.mk (blk_below (g := gb335) (o := .cells #[.slice Ao15 t329.length co15, .int .i64 t332] 46 (0, 0)) (bp_ BK335.out) hb); have n4_ := Aside0.mk (blk_below (g := gb342) (o := .cells #[.slice Ao21 t336.length co21, .int .i64 t339] 46 (0, 0)) (bp_ BK342.out) hb); have n5_ := bs_ HB hb; clear HO331; clear HO338; clear BK327; clear BK335; clear BK342; clear HB; have HO331 := n0_; have HO338 := n1_; have BK327 := n2_; have BK335 := n3_; have BK342 := n4_; have HB := n5_; clear n0_ n1_ n2_ n3_ n4_ n5_; (try clear hb); (try clear hb2); (try clear hk); (try clear hi)))
     go_meet
     case rel => exact ⟨_, ((t334 != t341)), (by first | rfl | (simp; done) | (simp [*]; done)), H', ⟨by first | omega | exact Nat.le_refl _⟩, ⟨by (with_reducible repeat (first | apply Kd.R_alloc | apply Kd.R_drewN | apply Kd.R_drew)); exact Kd.R_mono HO331.out (fun _ hk => hk.2)⟩, ⟨by (with_reducible repeat (first | apply Kd.R_alloc | apply Kd.R_drewN | apply Kd.R_drew)); exact Kd.R_mono HO338.out (fun _ hk => hk.2)⟩, ⟨bw_ BK327.out⟩, ⟨bw_ BK335.out⟩, ⟨bw_ BK342.out⟩, ⟨hb_ HB⟩⟩
    ·rw [if_neg c27] at H
     have c27b0 : (t333 == t340) = false := beq_eq_false_iff_ne.mpr c27
     have c27b1 : (t333 != t340) = true := bne_iff_ne.mpr c27
     (first | rw [c27b0] | (simp only [i64_w, i32_w]; rw [c27b0]) | skip)
     have H' := Aside0.mk H
     clear H
     have hnb34 := NB335_327.out
     have hnc34 := NB327_335.out
     have hnb35 := NB335_342.out
     have hnc35 := NB342_335.out
     obtain ⟨hcz36_0, hcz36_1, hfz36_0, hfz36_1⟩ := bc2_ BK335
     have hnb37 := NB342_327.out
     have hnc37 := NB327_342.out
     obtain ⟨hcz38_0, hcz38_1, hfz38_0, hfz38_1⟩ := bc2_ BK342
     go_wp2_with (first | ((with_reducible refine gate_callee (f := 38) rfl ?_); refine goesL_ (some 32) rfl rfl Try.func38 (by kernel_rfl) rfl #[.agg #[.slice Ao15 t329.length co15, .int .i64 t332], .agg #[.slice Ao21 t336.length co21, .int .i64 t339]] rfl (by (try simp only [List.map_toArray, List.map_cons, List.map_nil]); first | done | rfl | (simp only [List.length_drop, List.length_take]; rfl)) ?_; (with_reducible refine (calamusref11_Same.calls k _ _ t329 t332 _ _ t336 t339 true _ ?side1 ?side2 ?side3 ?side4 A25.out).mono ?_); (case side1 => refine (Kd.R_reads' (e := 69) (base := w.heap.size) (ok := fun k_ => (True ∧ some k_ ≠ (.slice Ao21 t336.length co21 : Value).ownBlock)) (n := t329.length) (c := co15) ?_).2.2; exact (by (with_reducible repeat (first | apply Kd.R_alloc | apply Kd.R_drewN | apply Kd.R_drew)); exact (Kd.R_mono (Kd.R_far (p := ⟨gb342, 1, none⟩) (Kd.R_far (p := ⟨gb342, 0, none⟩) (Kd.R_types HO331.out BK342.out (by decide)) (fun _ hk => hk.2) (.slice Ao21 t336.length co21)) (fun _ hk => hk.2) (.int .i64 t339)) (fun _ h_ => h_.1)))); (case side2 => exact (Kd.R_reads' HO331.out).2.1); (case side3 => refine (Kd.R_reads' (e := 69) (base := w.heap.size) (ok := fun k_ => (True ∧ some k_ ≠ (.slice Ao15 t329.length co15 : Value).ownBlock)) (n := t336.length) (c := co21) ?_).2.2; exact (by (with_reducible repeat (first | apply Kd.R_alloc | apply Kd.R_drewN | apply Kd.R_drew)); exact (Kd.R_mono (Kd.R_far (p := ⟨gb342, 1, none⟩) (Kd.R_far (p := ⟨gb342, 0, none⟩) (Kd.R_types HO338.out BK342.out (by decide)) (fun _ hk => hk.2) (.slice Ao21 t336.length co21)) (fun _ hk => hk.2) (.int .i64 t339)) (fun _ h_ => h_.1)))); (case side4 => exact (Kd.R_reads' HO338.out).2.1); rintro e w39 ⟨rfl, hb⟩; refine ⟨_, rfl, ?_⟩; have n0_ := Aside0.mk (Kd.R_below (by (with_reducible repeat (first | apply Kd.R_alloc | apply Kd.R_drewN | apply Kd.R_drew)); exact (Kd.R_mono (Kd.R_far (p := ⟨gb342, 1, none⟩) (Kd.R_far (p := ⟨gb342, 0, none⟩) (Kd.R_types HO331.out BK342.out (by decide)) (fun _ hk => hk.2) (.slice Ao21 t336.length co21)) (fun _ hk => hk.2) (.int .i64 t339)) (fun _ h_ => h_.1))) hb); have n1_ := Aside0.mk (Kd.R_below (by (with_reducible repeat (first | apply Kd.R_alloc | apply Kd.R_drewN | apply Kd.R_drew)); exact (Kd.R_mono (Kd.R_far (p := ⟨gb342, 1, none⟩) (Kd.R_far (p := ⟨gb342, 0, none⟩) (Kd.R_types HO338.out BK342.out (by decide)) (fun _ hk => hk.2) (.slice Ao21 t336.length co21)) (fun _ hk => hk.2) (.int .i64 t339)) (fun _ h_ => h_.1))) hb); have n2_ := Aside0.mk (blk_below (g := gb327) (o := .cells #[.slice A0_0 l0_0.length c0_0, .int .i64 a0_1] 46 (0, 0)) (bp_ BK327.out) hb); have n3_ := Aside0.mk (blk_below (g := gb335) (o := .cells #[.slice Ao15 t329.length co15, .int .i64 t332] 46 (0, 0)) (bp_ BK335.out) hb); have n4_ := Aside0.mk (blk_below (g := gb342) (o := .cells #[.slice Ao21 t336.length co21, .int .i64 t339] 46 (0, 0)) (bp_ BK342.out) hb); have n5_ := bs_ HB hb; clear HO331; clear HO338; clear BK327; clear BK335; clear BK342; clear HB; have HO331 := n0_; have HO338 := n1_; have BK327 := n2_; have BK335 := n3_; have BK342 := n4_; have HB := n5_; clear n0_ n1_ n2_ n3_ n4_ n5_; (try clear hb); (try clear hb2); (try clear hk); (try clear hi)))
     go_meet
     case rel => exact ⟨_, (true), (by first | rfl | (simp; done) | (simp [*]; done)), H', ⟨by first | omega | exact Nat.le_refl _⟩, ⟨by (with_reducible repeat (first | apply Kd.R_alloc | apply Kd.R_drewN | apply Kd.R_drew)); exact Kd.R_mono HO331.out (fun _ hk => hk.2)⟩, ⟨by (with_reducible repeat (first | apply Kd.R_alloc | apply Kd.R_drewN | apply Kd.R_drew)); exact Kd.R_mono HO338.out (fun _ hk => hk.2)⟩, ⟨bw_ BK327.out⟩, ⟨bw_ BK335.out⟩, ⟨bw_ BK342.out⟩, ⟨hb_ HB⟩⟩
   ·replace c26 := Bool.eq_false_iff.mpr c26
    subst c26
    have H1 : (calamuslaw11_TreeSteps.j0 k a1 true l0_0 a0_1) = some r := by rw [if_neg (show ¬ (false = true) by decide)] at H; exact H
    clear H
    have H := H1
    clear H1
    have H' := Aside0.mk H
    clear H
    have hnb40 := NB335_327.out
    have hnc40 := NB327_335.out
    have hnb41 := NB335_342.out
    have hnc41 := NB342_335.out
    obtain ⟨hcz42_0, hcz42_1, hfz42_0, hfz42_1⟩ := bc2_ BK335
    have hnb43 := NB342_327.out
    have hnc43 := NB327_342.out
    obtain ⟨hcz44_0, hcz44_1, hfz44_0, hfz44_1⟩ := bc2_ BK342
    go_wp2_with (first | ((with_reducible refine gate_callee (f := 38) rfl ?_); refine goesL_ (some 32) rfl rfl Try.func38 (by kernel_rfl) rfl #[.agg #[.slice Ao15 t329.length co15, .int .i64 t332], .agg #[.slice Ao21 t336.length co21, .int .i64 t339]] rfl (by (try simp only [List.map_toArray, List.map_cons, List.map_nil]); first | done | rfl | (simp only [List.length_drop, List.length_take]; rfl)) ?_; (with_reducible refine (calamusref11_Same.calls k _ _ t329 t332 _ _ t336 t339 false _ ?side1 ?side2 ?side3 ?side4 A25.out).mono ?_); (case side1 => refine (Kd.R_reads' (e := 69) (base := w.heap.size) (ok := fun k_ => (True ∧ some k_ ≠ (.slice Ao21 t336.length co21 : Value).ownBlock)) (n := t329.length) (c := co15) ?_).2.2; exact (by (with_reducible repeat (first | apply Kd.R_alloc | apply Kd.R_drewN | apply Kd.R_drew)); exact (Kd.R_mono (Kd.R_far (p := ⟨gb342, 1, none⟩) (Kd.R_far (p := ⟨gb342, 0, none⟩) (Kd.R_types HO331.out BK342.out (by decide)) (fun _ hk => hk.2) (.slice Ao21 t336.length co21)) (fun _ hk => hk.2) (.int .i64 t339)) (fun _ h_ => h_.1)))); (case side2 => exact (Kd.R_reads' HO331.out).2.1); (case side3 => refine (Kd.R_reads' (e := 69) (base := w.heap.size) (ok := fun k_ => (True ∧ some k_ ≠ (.slice Ao15 t329.length co15 : Value).ownBlock)) (n := t336.length) (c := co21) ?_).2.2; exact (by (with_reducible repeat (first | apply Kd.R_alloc | apply Kd.R_drewN | apply Kd.R_drew)); exact (Kd.R_mono (Kd.R_far (p := ⟨gb342, 1, none⟩) (Kd.R_far (p := ⟨gb342, 0, none⟩) (Kd.R_types HO338.out BK342.out (by decide)) (fun _ hk => hk.2) (.slice Ao21 t336.length co21)) (fun _ hk => hk.2) (.int .i64 t339)) (fun _ h_ => h_.1)))); (case side4 => exact (Kd.R_reads' HO338.out).2.1); rintro e w45 ⟨rfl, hb⟩; refine ⟨_, rfl, ?_⟩; have n0_ := Aside0.mk (Kd.R_below (by (with_reducible repeat (first | apply Kd.R_alloc | apply Kd.R_drewN | apply Kd.R_drew)); exact (Kd.R_mono (Kd.R_far (p := ⟨gb342, 1, none⟩) (Kd.R_far (p := ⟨gb342, 0, none⟩) (Kd.R_types HO331.out BK342.out (by decide)) (fun _ hk => hk.2) (.slice Ao21 t336.length co21)) (fun _ hk => hk.2) (.int .i64 t339)) (fun _ h_ => h_.1))) hb); have n1_ := Aside0.mk (Kd.R_below (by (with_reducible repeat (first | apply Kd.R_alloc | apply Kd.R_drewN | apply Kd.R_drew)); exact (Kd.R_mono (Kd.R_far (p := ⟨gb342, 1, none⟩) (Kd.R_far (p := ⟨gb342, 0, none⟩) (Kd.R_types HO338.out BK342.out (by decide)) (fun _ hk => hk.2) (.slice Ao21 t336.length co21)) (fun _ hk => hk.2) (.int .i64 t339)) (fun _ h_ => h_.1))) hb); have n2_ := Aside0.mk (blk_below (g := gb327) (o := .cells #[.slice A0_0 l0_0.length c0_0, .int .i64 a0_1] 46 (0, 0)) (bp_ BK327.out) hb); have n3_ := Aside0.mk (blk_below (g := gb335) (o := .cells #[.slice Ao15 t329.length co15, .int .i64 t332] 46 (0, 0)) (bp_ BK335.out) hb); have n4_ := Aside0.mk (blk_below (g := gb342) (o := .cells #[.slice Ao21 t336.length co21, .int .i64 t339] 46 (0, 0)) (bp_ BK342.out) hb); have n5_ := bs_ HB hb; clear HO331; clear HO338; clear BK327; clear BK335; clear BK342; clear HB; have HO331 := n0_; have HO338 := n1_; have BK327 := n2_; have BK335 := n3_; have BK342 := n4_; have HB := n5_; clear n0_ n1_ n2_ n3_ n4_ n5_; (try clear hb); (try clear hb2); (try clear hk); (try clear hi)))
    go_meet
    case rel => exact ⟨_, (true), (by first | rfl | (simp; done) | (simp [*]; done)), H', ⟨by first | omega | exact Nat.le_refl _⟩, ⟨by (with_reducible repeat (first | apply Kd.R_alloc | apply Kd.R_drewN | apply Kd.R_drew)); exact Kd.R_mono HO331.out (fun _ hk => hk.2)⟩, ⟨by (with_reducible repeat (first | apply Kd.R_alloc | apply Kd.R_drewN | apply Kd.R_drew)); exact Kd.R_mono HO338.out (fun _ hk => hk.2)⟩, ⟨bw_ BK327.out⟩, ⟨bw_ BK335.out⟩, ⟨bw_ BK342.out⟩, ⟨hb_ HB⟩⟩
  case rest =>
   clear HC10
   try clear c1
   try clear c2
   try clear p2
   try clear c3
   try clear c3b0
   try clear c3b1
   try clear c4
   try clear c9
   try clear c16
   try clear c22
   try clear c23
   try clear c26
   try clear c27
   try clear c27b0
   try clear c27b1
   try clear c28
   try clear c29
   try clear c31
   try clear c33
   try clear c34
   try clear c35
   try clear c37
   try clear c38
   try clear c40
   try clear c41
   try clear c42
   try clear c43
   try clear hcz12_0
   try clear hcz12_1
   try clear hcz17_0
   try clear hcz17_1
   try clear hcz18_0
   try clear hcz18_1
   try clear hcz24_0
   try clear hcz24_1
   try clear hcz30_0
   try clear hcz30_1
   try clear hcz32_0
   try clear hcz32_1
   try clear hcz36_0
   try clear hcz36_1
   try clear hcz38_0
   try clear hcz38_1
   try clear hcz42_0
   try clear hcz42_1
   try clear hcz44_0
   try clear hcz44_1
   try clear hcz6_0
   try clear hcz6_1
   try clear hfz12_0
   try clear hfz12_1
   try clear hfz17_0
   try clear hfz17_1
   try clear hfz18_0
   try clear hfz18_1
   try clear hfz24_0
   try clear hfz24_1
   try clear hfz30_0
   try clear hfz30_1
   try clear hfz32_0
   try clear hfz32_1
   try clear hfz36_0
   try clear hfz36_1
   try clear hfz38_0
   try clear hfz38_1
   try clear hfz42_0
   try clear hfz42_1
   try clear hfz44_0
   try clear hfz44_1
   try clear hfz6_0
   try clear hfz6_1
   obtain ⟨kq, x43_9, rfl, HA, HJ9, HO_336000, HO_343000, BK327, BK335, BK342, HB⟩ := hcut
   cases kq with
   | zero => exact absurd HA.out (by simp [calamuslaw11_TreeSteps.j0])
   | succ kj9 =>
    have H := HA.out
    clear HA
    simp only [calamuslaw11_TreeSteps.j0] at H
    by_cases c46 : x43_9 = true
    ·subst c46
     have H1 : (some false) = some r := by rw [if_pos rfl] at H; exact H
     clear H
     have H := H1
     clear H1
     exact nf_ H hr_
    ·replace c46 := Bool.eq_false_iff.mpr c46
     subst c46
     have H1 : ((tree_Redo.f kj9 l0_0 a0_1).bind fun bt344 => ((calamusref11_Redo.f kj9 l0_0 a0_1).bind fun bt350 => ((calamusref11_Same.f kj9 bt344.1 bt344.2.1 bt350.1 bt350.2.1).bind fun t356 => (if t356 = true then (if bt344.2.2.1 = bt350.2.2.1 then (if (bt344.2.2.2 != bt350.2.2.2) = true then (calamuslaw11_TreeSteps.j1 kj9 a1 true l0_0 a0_1) else ((tree_Kids.f kj9 l0_0 a0_1 a1).bind fun t357 => ((calamusref11_Kids.f kj9 l0_0 a0_1 a1).bind fun t360 => ((calamusref01_Same.f kj9 t357 t360).bind fun t363 => (calamuslaw11_TreeSteps.j1 kj9 a1 (!t363) l0_0 a0_1))))) else (calamuslaw11_TreeSteps.j1 kj9 a1 true l0_0 a0_1)) else (calamuslaw11_TreeSteps.j1 kj9 a1 true l0_0 a0_1))))) = some r := by rw [if_neg (show ¬ (false = true) by decide)] at H; exact H
     clear H
     have H := H1
     clear H1
     replace H := Option.bind_eq_some_iff.mp H
     obtain ⟨⟨t344, t347, t348, t349⟩, A470, H⟩ := H
     replace H : ((calamusref11_Redo.f kj9 l0_0 a0_1).bind fun bt350 => ((calamusref11_Same.f kj9 t344 t347 bt350.1 bt350.2.1).bind fun t356 => (if t356 = true then (if t348 = bt350.2.2.1 then (if (t349 != bt350.2.2.2) = true then (calamuslaw11_TreeSteps.j1 kj9 a1 true l0_0 a0_1) else ((tree_Kids.f kj9 l0_0 a0_1 a1).bind fun t357 => ((calamusref11_Kids.f kj9 l0_0 a0_1 a1).bind fun t360 => ((calamusref01_Same.f kj9 t357 t360).bind fun t363 => (calamuslaw11_TreeSteps.j1 kj9 a1 (!t363) l0_0 a0_1))))) else (calamuslaw11_TreeSteps.j1 kj9 a1 true l0_0 a0_1)) else (calamuslaw11_TreeSteps.j1 kj9 a1 true l0_0 a0_1)))) = some r := H
     have A47 := Aside0.mk A470
     clear A470
     replace H := Option.bind_eq_some_iff.mp H
     obtain ⟨⟨t350, t353, t354, t355⟩, A480, H⟩ := H
     replace H : ((calamusref11_Same.f kj9 t344 t347 t350 t353).bind fun t356 => (if t356 = true then (if t348 = t354 then (if (t349 != t355) = true then (calamuslaw11_TreeSteps.j1 kj9 a1 true l0_0 a0_1) else ((tree_Kids.f kj9 l0_0 a0_1 a1).bind fun t357 => ((calamusref11_Kids.f kj9 l0_0 a0_1 a1).bind fun t360 => ((calamusref01_Same.f kj9 t357 t360).bind fun t363 => (calamuslaw11_TreeSteps.j1 kj9 a1 (!t363) l0_0 a0_1))))) else (calamuslaw11_TreeSteps.j1 kj9 a1 true l0_0 a0_1)) else (calamuslaw11_TreeSteps.j1 kj9 a1 true l0_0 a0_1))) = some r := H
     have A48 := Aside0.mk A480
     clear A480
     have HC49 := Aside0.mk H
     clear H
     have hnb50 := NB327_335.out
     have hnc50 := NB335_327.out
     have hnb51 := NB327_342.out
     have hnc51 := NB342_327.out
     obtain ⟨hcz52_0, hcz52_1, hfz52_0, hfz52_1⟩ := bc2_ BK327
     go_upto_region 9 with (first | ((with_reducible refine gate_callee (f := 44) rfl ?_); refine goesL_ (some 46) rfl rfl Try.func44 (by kernel_rfl) rfl #[.agg #[.slice A0_0 l0_0.length c0_0, .int .i64 a0_1]] rfl (by (try simp only [List.map_toArray, List.map_cons, List.map_nil]); first | done | rfl | (simp only [List.length_drop, List.length_take]; rfl)) ?_; (with_reducible refine (tree_Redo.calls kj9 _ _ l0_0 a0_1 t344 t347 t348 t349 _ ?side1 ?side2 A47.out).mono ?_); (case side1 => exact cw_ (Kd.C_below HR0_0.out HB.out)); (case side2 => exact HC0_0.out); rintro e w53 ⟨v345, rfl, ho0, hb⟩; refine ⟨_, rfl, ?_⟩; have n0_ := Aside0.mk (Kd.R_elder' (rw_ HO_336000.out) (Kd.R_base ho0) hb); have n1_ := Aside0.mk (Kd.R_elder' (rw_ HO_343000.out) (Kd.R_base ho0) hb); have n2_ := Aside0.mk (Kd.R_lower (Kd.R_new' (Kd.R_new' ho0 (Kd.R_lt (rw_ HO_336000.out))) (Kd.R_lt (rw_ HO_343000.out))) (below_size (hb_ HB))); have n3_ := bb_ BK327 hb; have n4_ := bb_ BK335 hb; have n5_ := bb_ BK342 hb; have n6_ := bs_ HB hb; clear HO_336000; clear HO_343000; clear BK327; clear BK335; clear BK342; clear HB; have HO_336000 := n0_; have HO_343000 := n1_; have HO346 := n2_; have BK327 := n3_; have BK335 := n4_; have BK342 := n5_; have HB := n6_; clear n0_ n1_ n2_ n3_ n4_ n5_ n6_; (try clear hb); (try clear hb2); (try clear hk); (try clear hi); (try clear ho0); obtain ⟨Ao54, co54, eo54⟩ := Kd.R_slice HO346.out; subst eo54; have hnb55 := NB335_342.out; have hnc55 := NB342_335.out; obtain ⟨hcz56_0, hcz56_1, hfz56_0, hfz56_1⟩ := bc2_ BK335; obtain ⟨hcz57_0, hcz57_1, hfz57_0, hfz57_1⟩ := bc2_ BK327) | ((with_reducible refine gate_callee (f := 45) rfl ?_); refine goesL_ (some 52) rfl rfl Try.func45 (by kernel_rfl) rfl #[.agg #[.slice A0_0 l0_0.length c0_0, .int .i64 a0_1]] rfl (by (try simp only [List.map_toArray, List.map_cons, List.map_nil]); first | done | rfl | (simp only [List.length_drop, List.length_take]; rfl)) ?_; (with_reducible refine (calamusref11_Redo.calls kj9 _ _ l0_0 a0_1 t350 t353 t354 t355 _ ?side1 ?side2 A48.out).mono ?_); (case side1 => exact Kd.C_below HR0_0.out (hb_ HB)); (case side2 => exact HC0_0.out); rintro e w58 ⟨v351, rfl, ho0, hb⟩; refine ⟨_, rfl, ?_⟩; have n0_ := Aside0.mk (Kd.R_elder' (by (with_reducible repeat (first | apply Kd.R_alloc | apply Kd.R_drewN | apply Kd.R_drew)); exact (Kd.R_mono (Kd.R_far (p := ⟨gb335, 1, none⟩) (Kd.R_far (p := ⟨gb335, 0, none⟩) (Kd.R_types HO_336000.out BK335.out (by decide)) (fun _ hk => hk.2) (.slice Ao54 t344.length co54)) (fun _ hk => hk.2) (.int .i64 t347)) (fun _ h_ => h_.1))) (Kd.R_base ho0) hb); have n1_ := Aside0.mk (Kd.R_elder' (by (with_reducible repeat (first | apply Kd.R_alloc | apply Kd.R_drewN | apply Kd.R_drew)); exact (Kd.R_mono (Kd.R_far (p := ⟨gb335, 1, none⟩) (Kd.R_far (p := ⟨gb335, 0, none⟩) (Kd.R_types HO_343000.out BK335.out (by decide)) (fun _ hk => hk.2) (.slice Ao54 t344.length co54)) (fun _ hk => hk.2) (.int .i64 t347)) (fun _ h_ => h_.1))) (Kd.R_base ho0) hb); have n2_ := Aside0.mk (Kd.R_elder' (by (with_reducible repeat (first | apply Kd.R_alloc | apply Kd.R_drewN | apply Kd.R_drew)); exact (Kd.R_mono (Kd.R_far (p := ⟨gb335, 1, none⟩) (Kd.R_far (p := ⟨gb335, 0, none⟩) (Kd.R_types HO346.out BK335.out (by decide)) (fun _ hk => hk.2) (.slice Ao54 t344.length co54)) (fun _ hk => hk.2) (.int .i64 t347)) (fun _ h_ => h_.1))) (Kd.R_base ho0) hb); have n3_ := Aside0.mk (Kd.R_lower (Kd.R_new' (Kd.R_new' (Kd.R_new' ho0 (Kd.R_lt (by (with_reducible repeat (first | apply Kd.R_alloc | apply Kd.R_drewN | apply Kd.R_drew)); exact (Kd.R_mono (Kd.R_far (p := ⟨gb335, 1, none⟩) (Kd.R_far (p := ⟨gb335, 0, none⟩) (Kd.R_types HO_336000.out BK335.out (by decide)) (fun _ hk => hk.2) (.slice Ao54 t344.length co54)) (fun _ hk => hk.2) (.int .i64 t347)) (fun _ h_ => h_.1))))) (Kd.R_lt (by (with_reducible repeat (first | apply Kd.R_alloc | apply Kd.R_drewN | apply Kd.R_drew)); exact (Kd.R_mono (Kd.R_far (p := ⟨gb335, 1, none⟩) (Kd.R_far (p := ⟨gb335, 0, none⟩) (Kd.R_types HO_343000.out BK335.out (by decide)) (fun _ hk => hk.2) (.slice Ao54 t344.length co54)) (fun _ hk => hk.2) (.int .i64 t347)) (fun _ h_ => h_.1))))) (Kd.R_lt (by (with_reducible repeat (first | apply Kd.R_alloc | apply Kd.R_drewN | apply Kd.R_drew)); exact (Kd.R_mono (Kd.R_far (p := ⟨gb335, 1, none⟩) (Kd.R_far (p := ⟨gb335, 0, none⟩) (Kd.R_types HO346.out BK335.out (by decide)) (fun _ hk => hk.2) (.slice Ao54 t344.length co54)) (fun _ hk => hk.2) (.int .i64 t347)) (fun _ h_ => h_.1))))) (below_size (hb_ HB))); have n4_ := Aside0.mk (blk_below (g := gb327) (o := .cells #[.slice A0_0 l0_0.length c0_0, .int .i64 a0_1] 46 (0, 0)) (bp_ BK327.out) hb); have n5_ := Aside0.mk (blk_below (g := gb335) (o := .cells #[.slice Ao54 t344.length co54, .int .i64 t347] 46 (0, 0)) (bp_ BK335.out) hb); have n6_ := Aside0.mk (blk_below (g := gb342) (o := .cells #[.slice Ao21 t336.length co21, .int .i64 t339] 46 (0, 0)) (bp_ BK342.out) hb); have n7_ := bs_ HB hb; clear HO_336000; clear HO_343000; clear HO346; clear BK327; clear BK335; clear BK342; clear HB; have HO_336000 := n0_; have HO_343000 := n1_; have HO346 := n2_; have HO352 := n3_; have BK327 := n4_; have BK335 := n5_; have BK342 := n6_; have HB := n7_; clear n0_ n1_ n2_ n3_ n4_ n5_ n6_ n7_; (try clear hb); (try clear hb2); (try clear hk); (try clear hi); (try clear ho0); obtain ⟨Ao59, co59, eo59⟩ := Kd.R_slice HO352.out; subst eo59; obtain ⟨hcz60_0, hcz60_1, hfz60_0, hfz60_1⟩ := bc2_ BK342))
     (try simp only [Act.put, List.setIfInBounds_toArray, List.set_cons_zero, List.set_cons_succ])
     go_cut [79] (fun v79 wc => ∃ (kq : Nat) (x79_48 : Bool), v79 = .bool x79_48 ∧ Aside0 (calamuslaw11_TreeSteps.j1 kq a1 x79_48 l0_0 a0_1 = some r) ∧ Aside0 (kq ≤ kj9) ∧ Aside0 (Kd.R k69 69 wc w.heap.size (fun k_ => some k_ ≠ ((.slice Ao59 t350.length co59) : Value).ownBlock) (.slice Ao54 t344.length co54) t344) ∧ Aside0 (Kd.R k69 69 wc w.heap.size (fun k_ => some k_ ≠ ((.slice Ao54 t344.length co54) : Value).ownBlock) (.slice Ao59 t350.length co59) t350) ∧ Aside0 (wc.heap[gb327]? = some (.cells #[(.slice A0_0 l0_0.length c0_0), .int .i64 a0_1] 46 (0, 0))) ∧ Aside0 (wc.heap[gb335]? = some (.cells #[(.slice Ao54 t344.length co54), .int .i64 t347] 46 (0, 0))) ∧ Aside0 (wc.heap[gb342]? = some (.cells #[(.slice Ao59 t350.length co59), .int .i64 t353] 46 (0, 0))) ∧ Aside0 (Below w.heap.size w wc))
     case first =>
      have H := HC49.out
      clear HC49
      replace H := Option.bind_eq_some_iff.mp H
      obtain ⟨t356, A610, H⟩ := H
      replace H : (if t356 = true then (if t348 = t354 then (if (t349 != t355) = true then (calamuslaw11_TreeSteps.j1 kj9 a1 true l0_0 a0_1) else ((tree_Kids.f kj9 l0_0 a0_1 a1).bind fun t357 => ((calamusref11_Kids.f kj9 l0_0 a0_1 a1).bind fun t360 => ((calamusref01_Same.f kj9 t357 t360).bind fun t363 => (calamuslaw11_TreeSteps.j1 kj9 a1 (!t363) l0_0 a0_1))))) else (calamuslaw11_TreeSteps.j1 kj9 a1 true l0_0 a0_1)) else (calamuslaw11_TreeSteps.j1 kj9 a1 true l0_0 a0_1)) = some r := H
      have A61 := Aside0.mk A610
      clear A610
      by_cases c62 : t356 = true
      ·subst c62
       have H1 : (if t348 = t354 then (if (t349 != t355) = true then (calamuslaw11_TreeSteps.j1 kj9 a1 true l0_0 a0_1) else ((tree_Kids.f kj9 l0_0 a0_1 a1).bind fun t357 => ((calamusref11_Kids.f kj9 l0_0 a0_1 a1).bind fun t360 => ((calamusref01_Same.f kj9 t357 t360).bind fun t363 => (calamuslaw11_TreeSteps.j1 kj9 a1 (!t363) l0_0 a0_1))))) else (calamuslaw11_TreeSteps.j1 kj9 a1 true l0_0 a0_1)) = some r := by rw [if_pos rfl] at H; exact H
       clear H
       have H := H1
       clear H1
       by_cases c63 : t348 = t354
       ·rw [if_pos c63] at H
        have c63b0 : (t348 == t354) = true := beq_iff_eq.mpr c63
        have c63b1 : (t348 != t354) = false := bne_eq_false_iff_eq.mpr c63
        clear c63
        (first | rw [c63b0] | (simp only [i64_w, i32_w]; rw [c63b0]) | skip)
        by_cases c64 : (t349 != t355) = true
        ·rw [if_pos c64] at H
         have c64b0 : (t349 != t355) = true := c64
         (try (have c64b1 : decide (t349 = t355) = false := by simpa using c64))
         (try (have c64b2 : (t349 == t355) = false := by simpa using c64))
         (try (have c64b3 : ¬ (t349 = t355) := by simpa using c64))
         clear c64
         have H' := Aside0.mk H
         clear H
         try go_wp2
         have n0_ : Aside0 (Kd.R k69 69 ((w58.setCell ⟨gb342, 0, none⟩ (.slice Ao59 t350.length co59)).setCell ⟨gb342, 1, none⟩ (.int .i64 t353)) w.heap.size (fun k_ => some k_ ≠ (.slice Ao21 t336.length co21 : Value).ownBlock ∧ some k_ ≠ (.slice Ao54 t344.length co54 : Value).ownBlock ∧ some k_ ≠ (.slice Ao59 t350.length co59 : Value).ownBlock) (.slice Ao15 t329.length co15) t329) := ⟨by (with_reducible repeat (first | apply Kd.R_alloc | apply Kd.R_drewN | apply Kd.R_drew)); exact Kd.R_mono (Kd.R_far (p := ⟨gb342, 1, none⟩) (Kd.R_far (p := ⟨gb342, 0, none⟩) (Kd.R_types HO_336000.out BK342.out (by decide)) (fun _ hk => hk.2) (.slice Ao59 t350.length co59)) (fun _ hk => hk.2) (.int .i64 t353)) (fun _ hk => ⟨hk.1.1.1, ⟨hk.1.1.2, hk.1.2⟩⟩)⟩
         have n1_ : Aside0 (Kd.R k69 69 ((w58.setCell ⟨gb342, 0, none⟩ (.slice Ao59 t350.length co59)).setCell ⟨gb342, 1, none⟩ (.int .i64 t353)) w.heap.size (fun k_ => some k_ ≠ (.slice Ao15 t329.length co15 : Value).ownBlock ∧ some k_ ≠ (.slice Ao54 t344.length co54 : Value).ownBlock ∧ some k_ ≠ (.slice Ao59 t350.length co59 : Value).ownBlock) (.slice Ao21 t336.length co21) t336) := ⟨by (with_reducible repeat (first | apply Kd.R_alloc | apply Kd.R_drewN | apply Kd.R_drew)); exact Kd.R_mono (Kd.R_far (p := ⟨gb342, 1, none⟩) (Kd.R_far (p := ⟨gb342, 0, none⟩) (Kd.R_types HO_343000.out BK342.out (by decide)) (fun _ hk => hk.2) (.slice Ao59 t350.length co59)) (fun _ hk => hk.2) (.int .i64 t353)) (fun _ hk => ⟨hk.1.1.1, ⟨hk.1.1.2, hk.1.2⟩⟩)⟩
         have n2_ : Aside0 (Kd.R k69 69 ((w58.setCell ⟨gb342, 0, none⟩ (.slice Ao59 t350.length co59)).setCell ⟨gb342, 1, none⟩ (.int .i64 t353)) w.heap.size (fun k_ => some k_ ≠ (.slice Ao15 t329.length co15 : Value).ownBlock ∧ some k_ ≠ (.slice Ao21 t336.length co21 : Value).ownBlock ∧ some k_ ≠ (.slice Ao59 t350.length co59 : Value).ownBlock) (.slice Ao54 t344.length co54) t344) := ⟨by (with_reducible repeat (first | apply Kd.R_alloc | apply Kd.R_drewN | apply Kd.R_drew)); exact Kd.R_mono (Kd.R_far (p := ⟨gb342, 1, none⟩) (Kd.R_far (p := ⟨gb342, 0, none⟩) (Kd.R_types HO346.out BK342.out (by decide)) (fun _ hk => hk.2) (.slice Ao59 t350.length co59)) (fun _ hk => hk.2) (.int .i64 t353)) (fun _ hk => ⟨hk.1.1.1.2, ⟨hk.1.1.2, hk.1.2⟩⟩)⟩
         have n3_ : Aside0 (Kd.R k69 69 ((w58.setCell ⟨gb342, 0, none⟩ (.slice Ao59 t350.length co59)).setCell ⟨gb342, 1, none⟩ (.int .i64 t353)) w.heap.size (fun k_ => some k_ ≠ (.slice Ao15 t329.length co15 : Value).ownBlock ∧ some k_ ≠ (.slice Ao21 t336.length co21 : Value).ownBlock ∧ some k_ ≠ (.slice Ao54 t344.length co54 : Value).ownBlock) (.slice Ao59 t350.length co59) t350) := ⟨by (with_reducible repeat (first | apply Kd.R_alloc | apply Kd.R_drewN | apply Kd.R_drew)); exact Kd.R_mono (Kd.R_far (p := ⟨gb342, 1, none⟩) (Kd.R_far (p := ⟨gb342, 0, none⟩) (Kd.R_types HO352.out BK342.out (by decide)) (fun _ hk => hk.2) (.slice Ao59 t350.length co59)) (fun _ hk => hk.2) (.int .i64 t353)) (fun _ hk => ⟨hk.1.1.1.2, ⟨hk.1.1.2, hk.1.2⟩⟩)⟩
         have n4_ : Aside0 (((w58.setCell ⟨gb342, 0, none⟩ (.slice Ao59 t350.length co59)).setCell ⟨gb342, 1, none⟩ (.int .i64 t353)).heap[gb327]? = some (.cells #[.slice A0_0 l0_0.length c0_0, .int .i64 a0_1] 46 (0, 0))) := ⟨bp_ BK327.out⟩
         have n5_ : Aside0 (((w58.setCell ⟨gb342, 0, none⟩ (.slice Ao59 t350.length co59)).setCell ⟨gb342, 1, none⟩ (.int .i64 t353)).heap[gb335]? = some (.cells #[.slice Ao54 t344.length co54, .int .i64 t347] 46 (0, 0))) := ⟨bp_ BK335.out⟩
         have n6_ : Aside0 (((w58.setCell ⟨gb342, 0, none⟩ (.slice Ao59 t350.length co59)).setCell ⟨gb342, 1, none⟩ (.int .i64 t353)).heap[gb342]? = some (.cells #[.slice Ao59 t350.length co59, .int .i64 t353] 46 (0, 0))) := ⟨bp_ BK342.out⟩
         have n7_ : Aside0 (Below w.heap.size w ((w58.setCell ⟨gb342, 0, none⟩ (.slice Ao59 t350.length co59)).setCell ⟨gb342, 1, none⟩ (.int .i64 t353))) := ⟨hb_ HB⟩
         (try clear HO_336000)
         (try clear HO_343000)
         (try clear HO346)
         (try clear HO352)
         (try clear BK327)
         (try clear BK335)
         (try clear BK342)
         (try clear HB)
         generalize ((w58.setCell ⟨gb342, 0, none⟩ (.slice Ao59 t350.length co59)).setCell ⟨gb342, 1, none⟩ (.int .i64 t353)) = w65 at n0_ n1_ n2_ n3_ n4_ n5_ n6_ n7_ ⊢
         have HO_336000 := n0_
         have HO_343000 := n1_
         have HO346 := n2_
         have HO352 := n3_
         have BK327 := n4_
         have BK335 := n5_
         have BK342 := n6_
         have HB := n7_
         clear n0_ n1_ n2_ n3_ n4_ n5_ n6_ n7_
         have n0_ := Aside0.mk (Kd.R_drew HO_336000.out)
         have n1_ := Aside0.mk (Kd.R_drew HO_343000.out)
         have n2_ := Aside0.mk (Kd.R_drew HO346.out)
         have n3_ := Aside0.mk (Kd.R_drew HO352.out)
         have n4_ := Aside0.mk (blk_drew BK327.out)
         have n5_ := Aside0.mk (blk_drew BK335.out)
         have n6_ := Aside0.mk (blk_drew BK342.out)
         have n7_ := Aside0.mk (below_drew1 HB.out)
         clear HO_336000
         clear HO_343000
         clear HO346
         clear HO352
         clear BK327
         clear BK335
         clear BK342
         clear HB
         have HO_336000 := n0_
         have HO_343000 := n1_
         have HO346 := n2_
         have HO352 := n3_
         have BK327 := n4_
         have BK335 := n5_
         have BK342 := n6_
         have HB := n7_
         clear n0_ n1_ n2_ n3_ n4_ n5_ n6_ n7_
         refine start_ (n := 24) (S := fun w' => w'.cell? ⟨gb335, 0, none⟩ = some (.slice Ao54 t344.length co54) ∧ w'.cell? ⟨gb335, 1, none⟩ = some (.int .i64 t347) ∧ w'.cell? ⟨gb342, 0, none⟩ = some (.slice Ao59 t350.length co59) ∧ w'.cell? ⟨gb342, 1, none⟩ = some (.int .i64 t353)) (ds := []) #[false, false, false, false, false, false, false, false, false, false, false, false, false, false, false, false, false, false, false, false, false, false, false, false] (by kernel_rfl) rfl rfl ⟨(blk_cell BK335.out 0).trans rfl, (blk_cell BK335.out 1).trans rfl, (blk_cell BK342.out 0).trans rfl, (blk_cell BK342.out 1).trans rfl⟩ (fun hHeld => ?_); refine with_tabW calamuslaw11_TreeSteps.tab9 calamuslaw11_TreeSteps.bits9 (fun HT_ HW_ => ?_)
         generalize w65.drew = w66 at HO_336000 HO_343000 HO346 HO352 BK327 BK335 BK342 HB hHeld ⊢
         refine take_ (i := 0) (N := some 56) (v := ?_) (a' := ?_) #[true, false, false, false, false, false, false, false, false, false, false, false, false, false, false, false, false, false, false, false, false, false, false, false] rfl rfl (take_ofW HT_.out HW_.out (by kernel_rfl)) (fun _ _ _ h => h) (Or.inl ⟨by rfl, ?_⟩) hHeld ?_ ?_
         rotate_left
         ·rintro w' ⟨s0, s1, s2, s3⟩
          go_simp
          with_reducible rfl
         rotate_left
         ·simp only [Act.put, List.setIfInBounds_toArray, List.set_cons_zero, List.set_cons_succ, i64_w, i32_w]
          rfl
         refine take_ (i := 1) (N := some 57) (v := ?_) (a' := ?_) #[true, true, false, false, false, false, false, false, false, false, false, false, false, false, false, false, false, false, false, false, false, false, false, false] rfl rfl (take_ofW HT_.out HW_.out (by kernel_rfl)) (fun _ _ _ h => h) (Or.inl ⟨by rfl, ?_⟩) hHeld ?_ ?_
         rotate_left
         ·rintro w' ⟨s0, s1, s2, s3⟩
          go_simp
          with_reducible rfl
         rotate_left
         ·simp only [Act.put, List.setIfInBounds_toArray, List.set_cons_zero, List.set_cons_succ, i64_w, i32_w]
          rfl
         refine one_ (i := 2) (N := some 58) #[true, true, true, false, false, false, false, false, false, false, false, false, false, false, false, false, false, false, false, false, false, false, false, false] rfl rfl (one_of HT_.out (by kernel_rfl)) (by decide) (fun K hK => ?_)
         refine goes_ Try.func38 (by kernel_rfl) rfl #[.agg #[.slice Ao54 t344.length co54, .int .i64 t347], .agg #[.slice Ao59 t350.length co59, .int .i64 t353]] (by rfl) rfl rfl (by (try simp only [List.map_toArray, List.map_cons, List.map_nil]); first | done | rfl | (simp only [List.length_drop, List.length_take]; rfl)) ?_
         with_reducible refine (calamusref11_Same.calls kj9 _ _ t344 t347 _ _ t350 t353 true _ ?side1 ?side2 ?side3 ?side4 A61.out).mono ?_
         (case side1 => repeat (first | exact (Kd.R_reads' HO346.out).2.2 | (with_reducible refine Kd.C_alloc ?_ _) | (with_reducible refine Kd.C_drewN ?_ _) | (with_reducible refine Kd.C_drew ?_)))
         (case side2 => exact (Kd.R_reads' HO346.out).2.1)
         (case side3 => repeat (first | exact (Kd.R_reads' HO352.out).2.2 | (with_reducible refine Kd.C_alloc ?_ _) | (with_reducible refine Kd.C_drewN ?_ _) | (with_reducible refine Kd.C_drew ?_)))
         (case side4 => exact (Kd.R_reads' HO352.out).2.1)
         rintro e w67 ⟨rfl, hb⟩
         refine ⟨_, rfl, ?_⟩
         have n0_ := Aside0.mk (Kd.R_below (rw_ HO_336000.out) hb)
         have n1_ := Aside0.mk (Kd.R_below (rw_ HO_343000.out) hb)
         have n2_ := Aside0.mk (Kd.R_below (rw_ HO346.out) hb)
         have n3_ := Aside0.mk (Kd.R_below (rw_ HO352.out) hb)
         have n4_ := bb_ BK327 hb
         have n5_ := bb_ BK335 hb
         have n6_ := bb_ BK342 hb
         have n7_ := bs_ HB hb
         clear HO_336000
         clear HO_343000
         clear HO346
         clear HO352
         clear BK327
         clear BK335
         clear BK342
         clear HB
         have HO_336000 := n0_
         have HO_343000 := n1_
         have HO346 := n2_
         have HO352 := n3_
         have BK327 := n4_
         have BK335 := n5_
         have BK342 := n6_
         have HB := n7_
         clear n0_ n1_ n2_ n3_ n4_ n5_ n6_ n7_
         (try clear hb)
         (try clear hb2)
         (try clear hk)
         (try clear hi)
         refine hK.out _ _ ⟨(blk_cell BK335.out 0).trans rfl, (blk_cell BK335.out 1).trans rfl, (blk_cell BK342.out 0).trans rfl, (blk_cell BK342.out 1).trans rfl⟩ (fun hHeld => ?_)
         clear hK K
         refine norm_ (a' := ?_) ?_ ?_
         rotate_left
         ·show Act.put _ (some 58) _ = _
          simp only [Act.put, List.setIfInBounds_toArray, List.set_cons_zero, List.set_cons_succ, i64_w, i32_w]
          rfl
         refine pure_ (i := 3) (N := some 59) (v := ?_) (a' := ?_) #[true, true, true, true, false, false, false, false, false, false, false, false, false, false, false, false, false, false, false, false, false, false, false, false] rfl rfl (any_of HT_.out (by kernel_rfl)) (fun _ _ _ h => h) (Or.inl ⟨by rfl, ?_⟩) ?_ ?_
         rotate_left
         ·intro w'
          go_simp
          with_reducible rfl
         rotate_left
         ·simp only [Act.put, List.setIfInBounds_toArray, List.set_cons_zero, List.set_cons_succ, i64_w, i32_w]
          rfl
         refine pure_ (i := 4) (N := some 60) (v := ?_) (a' := ?_) #[true, true, true, true, true, false, false, false, false, false, false, false, false, false, false, false, false, false, false, false, false, false, false, false] rfl rfl (any_of HT_.out (by kernel_rfl)) (fun _ _ _ h => h) (Or.inl ⟨by rfl, ?_⟩) ?_ ?_
         rotate_left
         ·intro w'
          go_simp
          with_reducible rfl
         rotate_left
         ·simp only [Act.put, List.setIfInBounds_toArray, List.set_cons_zero, List.set_cons_succ, i64_w, i32_w]
          rfl
         refine pure_ (i := 5) (N := some 61) (v := ?_) (a' := ?_) #[true, true, true, true, true, true, false, false, false, false, false, false, false, false, false, false, false, false, false, false, false, false, false, false] rfl rfl (any_of HT_.out (by kernel_rfl)) (fun _ _ _ h => h) (Or.inl ⟨by rfl, ?_⟩) ?_ ?_
         rotate_left
         ·intro w'
          go_simp
          with_reducible rfl
         rotate_left
         ·simp only [Act.put, List.setIfInBounds_toArray, List.set_cons_zero, List.set_cons_succ, i64_w, i32_w]
          rfl
         refine pure_ (i := 6) (N := some 62) (v := ?_) (a' := ?_) #[true, true, true, true, true, true, true, false, false, false, false, false, false, false, false, false, false, false, false, false, false, false, false, false] rfl rfl (any_of HT_.out (by kernel_rfl)) (fun _ _ _ h => h) (Or.inl ⟨by rfl, ?_⟩) ?_ ?_
         rotate_left
         ·intro w'
          go_simp
          with_reducible rfl
         rotate_left
         ·simp only [Act.put, List.setIfInBounds_toArray, List.set_cons_zero, List.set_cons_succ, i64_w, i32_w]
          rfl
         refine pure_ (i := 7) (N := some 63) (v := ?_) (a' := ?_) #[true, true, true, true, true, true, true, true, false, false, false, false, false, false, false, false, false, false, false, false, false, false, false, false] rfl rfl (any_of HT_.out (by kernel_rfl)) (fun _ _ _ h => h) (Or.inl ⟨by rfl, ?_⟩) ?_ ?_
         rotate_left
         ·intro w'
          go_simp
          with_reducible rfl
         rotate_left
         ·simp only [Act.put, List.setIfInBounds_toArray, List.set_cons_zero, List.set_cons_succ, i64_w, i32_w]
          rfl
         refine pure_ (i := 8) (N := some 64) (v := ?_) (a' := ?_) #[true, true, true, true, true, true, true, true, true, false, false, false, false, false, false, false, false, false, false, false, false, false, false, false] rfl rfl (any_of HT_.out (by kernel_rfl)) (fun _ _ _ h => h) (Or.inl ⟨by rfl, ?_⟩) ?_ ?_
         rotate_left
         ·intro w'
          go_simp
          with_reducible rfl
         rotate_left
         ·simp only [Act.put, List.setIfInBounds_toArray, List.set_cons_zero, List.set_cons_succ, i64_w, i32_w]
          rfl
         refine pure_ (i := 9) (N := some 65) (v := ?_) (a' := ?_) #[true, true, true, true, true, true, true, true, true, true, false, false, false, false, false, false, false, false, false, false, false, false, false, false] rfl rfl (any_of HT_.out (by kernel_rfl)) (fun _ _ _ h => h) (Or.inl ⟨by rfl, ?_⟩) ?_ ?_
         rotate_left
         ·intro w'
          go_simp
          with_reducible rfl
         rotate_left
         ·simp only [Act.put, List.setIfInBounds_toArray, List.set_cons_zero, List.set_cons_succ, i64_w, i32_w]
          rfl
         refine pure_ (i := 10) (N := some 66) (v := ?_) (a' := ?_) #[true, true, true, true, true, true, true, true, true, true, true, false, false, false, false, false, false, false, false, false, false, false, false, false] rfl rfl (any_of HT_.out (by kernel_rfl)) (fun _ _ _ h => h) (Or.inl ⟨by rfl, ?_⟩) ?_ ?_
         rotate_left
         ·intro w'
          go_simp
          with_reducible rfl
         rotate_left
         ·simp only [Act.put, List.setIfInBounds_toArray, List.set_cons_zero, List.set_cons_succ, i64_w, i32_w]
          rfl
         refine pure_ (i := 11) (N := some 67) (v := ?_) (a' := ?_) #[true, true, true, true, true, true, true, true, true, true, true, true, false, false, false, false, false, false, false, false, false, false, false, false] rfl rfl (any_of HT_.out (by kernel_rfl)) (fun _ _ _ h => h) (Or.inl ⟨by rfl, ?_⟩) ?_ ?_
         rotate_left
         ·intro w'
          go_simp
          with_reducible rfl
         rotate_left
         ·simp only [Act.put, List.setIfInBounds_toArray, List.set_cons_zero, List.set_cons_succ, i64_w, i32_w]
          rfl
         refine pure_ (i := 12) (N := some 68) (v := ?_) (a' := ?_) #[true, true, true, true, true, true, true, true, true, true, true, true, true, false, false, false, false, false, false, false, false, false, false, false] rfl rfl (any_of HT_.out (by kernel_rfl)) (fun _ _ _ h => h) (Or.inl ⟨by rfl, ?_⟩) ?_ ?_
         rotate_left
         ·intro w'
          go_simp
          with_reducible rfl
         rotate_left
         ·simp only [Act.put, List.setIfInBounds_toArray, List.set_cons_zero, List.set_cons_succ, i64_w, i32_w]
          rfl
         refine pure_ (i := 13) (N := some 69) (v := ?_) (a' := ?_) #[true, true, true, true, true, true, true, true, true, true, true, true, true, true, false, false, false, false, false, false, false, false, false, false] rfl rfl (any_of HT_.out (by kernel_rfl)) (fun _ _ _ h => h) (Or.inl ⟨by rfl, ?_⟩) ?_ ?_
         rotate_left
         ·intro w'
          go_simp
          with_reducible rfl
         rotate_left
         ·simp only [Act.put, List.setIfInBounds_toArray, List.set_cons_zero, List.set_cons_succ, i64_w, i32_w]
          rfl
         refine pure_ (i := 14) (N := some 70) (v := ?_) (a' := ?_) #[true, true, true, true, true, true, true, true, true, true, true, true, true, true, true, false, false, false, false, false, false, false, false, false] rfl rfl (any_of HT_.out (by kernel_rfl)) (fun _ _ _ h => h) (Or.inl ⟨by rfl, ?_⟩) ?_ ?_
         rotate_left
         ·intro w'
          go_simp
          with_reducible rfl
         rotate_left
         ·simp only [Act.put, List.setIfInBounds_toArray, List.set_cons_zero, List.set_cons_succ, i64_w, i32_w]
          rfl
         refine pure_ (i := 15) (N := some 71) (v := undef) (a' := ?_) #[true, true, true, true, true, true, true, true, true, true, true, true, true, true, true, true, false, false, false, false, false, false, false, false] rfl rfl (any_of HT_.out (by kernel_rfl)) (fun _ _ _ h => h) (Or.inr ⟨by rfl, rfl⟩) ?_ ?_
         rotate_left
         ·simp only [Act.put, List.setIfInBounds_toArray, List.set_cons_zero, List.set_cons_succ, i64_w, i32_w]
          rfl
         refine pure_ (i := 16) (N := some 72) (v := undef) (a' := ?_) #[true, true, true, true, true, true, true, true, true, true, true, true, true, true, true, true, true, false, false, false, false, false, false, false] rfl rfl (any_of HT_.out (by kernel_rfl)) (fun _ _ _ h => h) (Or.inr ⟨by rfl, rfl⟩) ?_ ?_
         rotate_left
         ·simp only [Act.put, List.setIfInBounds_toArray, List.set_cons_zero, List.set_cons_succ, i64_w, i32_w]
          rfl
         refine pure_ (i := 17) (N := some 73) (v := undef) (a' := ?_) #[true, true, true, true, true, true, true, true, true, true, true, true, true, true, true, true, true, true, false, false, false, false, false, false] rfl rfl (any_of HT_.out (by kernel_rfl)) (fun _ _ _ h => h) (Or.inr ⟨by rfl, rfl⟩) ?_ ?_
         rotate_left
         ·simp only [Act.put, List.setIfInBounds_toArray, List.set_cons_zero, List.set_cons_succ, i64_w, i32_w]
          rfl
         refine pure_ (i := 18) (N := some 74) (v := undef) (a' := ?_) #[true, true, true, true, true, true, true, true, true, true, true, true, true, true, true, true, true, true, true, false, false, false, false, false] rfl rfl (any_of HT_.out (by kernel_rfl)) (fun _ _ _ h => h) (Or.inr ⟨by rfl, rfl⟩) ?_ ?_
         rotate_left
         ·simp only [Act.put, List.setIfInBounds_toArray, List.set_cons_zero, List.set_cons_succ, i64_w, i32_w]
          rfl
         refine pure_ (i := 19) (N := some 75) (v := undef) (a' := ?_) #[true, true, true, true, true, true, true, true, true, true, true, true, true, true, true, true, true, true, true, true, false, false, false, false] rfl rfl (any_of HT_.out (by kernel_rfl)) (fun _ _ _ h => h) (Or.inr ⟨by rfl, rfl⟩) ?_ ?_
         rotate_left
         ·simp only [Act.put, List.setIfInBounds_toArray, List.set_cons_zero, List.set_cons_succ, i64_w, i32_w]
          rfl
         refine pure_ (i := 20) (N := some 76) (v := undef) (a' := ?_) #[true, true, true, true, true, true, true, true, true, true, true, true, true, true, true, true, true, true, true, true, true, false, false, false] rfl rfl (any_of HT_.out (by kernel_rfl)) (fun _ _ _ h => h) (Or.inr ⟨by rfl, rfl⟩) ?_ ?_
         rotate_left
         ·simp only [Act.put, List.setIfInBounds_toArray, List.set_cons_zero, List.set_cons_succ, i64_w, i32_w]
          rfl
         refine pure_ (i := 21) (N := some 77) (v := undef) (a' := ?_) #[true, true, true, true, true, true, true, true, true, true, true, true, true, true, true, true, true, true, true, true, true, true, false, false] rfl rfl (any_of HT_.out (by kernel_rfl)) (fun _ _ _ h => h) (Or.inr ⟨by rfl, rfl⟩) ?_ ?_
         rotate_left
         ·simp only [Act.put, List.setIfInBounds_toArray, List.set_cons_zero, List.set_cons_succ, i64_w, i32_w]
          rfl
         refine pure_ (i := 22) (N := some 78) (v := undef) (a' := ?_) #[true, true, true, true, true, true, true, true, true, true, true, true, true, true, true, true, true, true, true, true, true, true, true, false] rfl rfl (any_of HT_.out (by kernel_rfl)) (fun _ _ _ h => h) (Or.inr ⟨by rfl, rfl⟩) ?_ ?_
         rotate_left
         ·simp only [Act.put, List.setIfInBounds_toArray, List.set_cons_zero, List.set_cons_succ, i64_w, i32_w]
          rfl
         refine pure_ (i := 23) (N := some 79) (v := ?_) (a' := ?_) #[true, true, true, true, true, true, true, true, true, true, true, true, true, true, true, true, true, true, true, true, true, true, true, true] rfl rfl (any_of HT_.out (by kernel_rfl)) (fun _ _ _ h => h) (Or.inl ⟨by rfl, ?_⟩) ?_ ?_
         rotate_left
         ·intro w'
          go_simp
          with_reducible rfl
         rotate_left
         ·simp only [Act.put, List.setIfInBounds_toArray, List.set_cons_zero, List.set_cons_succ, i64_w, i32_w]
          rfl
         refine done_ (done_of HT_.out (by kernel_rfl)) ?_
         try go_wp2
         go_meet
         case rel => exact ⟨_, (true), (by first | rfl | (simp; done) | (simp [*]; done)), H', ⟨by have := HJ9.out; first | omega | exact Nat.le_refl _⟩, ⟨by (with_reducible repeat (first | apply Kd.R_alloc | apply Kd.R_drewN | apply Kd.R_drew)); exact Kd.R_mono HO346.out (fun _ hk => hk.2.2)⟩, ⟨by (with_reducible repeat (first | apply Kd.R_alloc | apply Kd.R_drewN | apply Kd.R_drew)); exact Kd.R_mono HO352.out (fun _ hk => hk.2.2)⟩, ⟨bw_ BK327.out⟩, ⟨bw_ BK335.out⟩, ⟨bw_ BK342.out⟩, ⟨hb_ HB⟩⟩
        ·rw [if_neg c64] at H
         have c64b0 : (t349 != t355) = false := by simpa using c64
         (try (have c64b1 : decide (t349 = t355) = true := by simpa using c64))
         (try (have c64b2 : (t349 == t355) = true := by simpa using c64))
         clear c64
         replace H := Option.bind_eq_some_iff.mp H
         obtain ⟨t357, A680, H⟩ := H
         replace H : ((calamusref11_Kids.f kj9 l0_0 a0_1 a1).bind fun t360 => ((calamusref01_Same.f kj9 t357 t360).bind fun t363 => (calamuslaw11_TreeSteps.j1 kj9 a1 (!t363) l0_0 a0_1))) = some r := H
         have A68 := Aside0.mk A680
         clear A680
         replace H := Option.bind_eq_some_iff.mp H
         obtain ⟨t360, A690, H⟩ := H
         replace H : ((calamusref01_Same.f kj9 t357 t360).bind fun t363 => (calamuslaw11_TreeSteps.j1 kj9 a1 (!t363) l0_0 a0_1)) = some r := H
         have A69 := Aside0.mk A690
         clear A690
         replace H := Option.bind_eq_some_iff.mp H
         obtain ⟨t363, A700, H⟩ := H
         replace H : (calamuslaw11_TreeSteps.j1 kj9 a1 (!t363) l0_0 a0_1) = some r := H
         have A70 := Aside0.mk A700
         clear A700
         have H' := Aside0.mk H
         clear H
         try go_wp2
         have n0_ : Aside0 (Kd.R k69 69 ((w58.setCell ⟨gb342, 0, none⟩ (.slice Ao59 t350.length co59)).setCell ⟨gb342, 1, none⟩ (.int .i64 t353)) w.heap.size (fun k_ => some k_ ≠ (.slice Ao21 t336.length co21 : Value).ownBlock ∧ some k_ ≠ (.slice Ao54 t344.length co54 : Value).ownBlock ∧ some k_ ≠ (.slice Ao59 t350.length co59 : Value).ownBlock) (.slice Ao15 t329.length co15) t329) := ⟨by (with_reducible repeat (first | apply Kd.R_alloc | apply Kd.R_drewN | apply Kd.R_drew)); exact Kd.R_mono (Kd.R_far (p := ⟨gb342, 1, none⟩) (Kd.R_far (p := ⟨gb342, 0, none⟩) (Kd.R_types HO_336000.out BK342.out (by decide)) (fun _ hk => hk.2) (.slice Ao59 t350.length co59)) (fun _ hk => hk.2) (.int .i64 t353)) (fun _ hk => ⟨hk.1.1.1, ⟨hk.1.1.2, hk.1.2⟩⟩)⟩
         have n1_ : Aside0 (Kd.R k69 69 ((w58.setCell ⟨gb342, 0, none⟩ (.slice Ao59 t350.length co59)).setCell ⟨gb342, 1, none⟩ (.int .i64 t353)) w.heap.size (fun k_ => some k_ ≠ (.slice Ao15 t329.length co15 : Value).ownBlock ∧ some k_ ≠ (.slice Ao54 t344.length co54 : Value).ownBlock ∧ some k_ ≠ (.slice Ao59 t350.length co59 : Value).ownBlock) (.slice Ao21 t336.length co21) t336) := ⟨by (with_reducible repeat (first | apply Kd.R_alloc | apply Kd.R_drewN | apply Kd.R_drew)); exact Kd.R_mono (Kd.R_far (p := ⟨gb342, 1, none⟩) (Kd.R_far (p := ⟨gb342, 0, none⟩) (Kd.R_types HO_343000.out BK342.out (by decide)) (fun _ hk => hk.2) (.slice Ao59 t350.length co59)) (fun _ hk => hk.2) (.int .i64 t353)) (fun _ hk => ⟨hk.1.1.1, ⟨hk.1.1.2, hk.1.2⟩⟩)⟩
         have n2_ : Aside0 (Kd.R k69 69 ((w58.setCell ⟨gb342, 0, none⟩ (.slice Ao59 t350.length co59)).setCell ⟨gb342, 1, none⟩ (.int .i64 t353)) w.heap.size (fun k_ => some k_ ≠ (.slice Ao15 t329.length co15 : Value).ownBlock ∧ some k_ ≠ (.slice Ao21 t336.length co21 : Value).ownBlock ∧ some k_ ≠ (.slice Ao59 t350.length co59 : Value).ownBlock) (.slice Ao54 t344.length co54) t344) := ⟨by (with_reducible repeat (first | apply Kd.R_alloc | apply Kd.R_drewN | apply Kd.R_drew)); exact Kd.R_mono (Kd.R_far (p := ⟨gb342, 1, none⟩) (Kd.R_far (p := ⟨gb342, 0, none⟩) (Kd.R_types HO346.out BK342.out (by decide)) (fun _ hk => hk.2) (.slice Ao59 t350.length co59)) (fun _ hk => hk.2) (.int .i64 t353)) (fun _ hk => ⟨hk.1.1.1.2, ⟨hk.1.1.2, hk.1.2⟩⟩)⟩
         have n3_ : Aside0 (Kd.R k69 69 ((w58.setCell ⟨gb342, 0, none⟩ (.slice Ao59 t350.length co59)).setCell ⟨gb342, 1, none⟩ (.int .i64 t353)) w.heap.size (fun k_ => some k_ ≠ (.slice Ao15 t329.length co15 : Value).ownBlock ∧ some k_ ≠ (.slice Ao21 t336.length co21 : Value).ownBlock ∧ some k_ ≠ (.slice Ao54 t344.length co54 : Value).ownBlock) (.slice Ao59 t350.length co59) t350) := ⟨by (with_reducible repeat (first | apply Kd.R_alloc | apply Kd.R_drewN | apply Kd.R_drew)); exact Kd.R_mono (Kd.R_far (p := ⟨gb342, 1, none⟩) (Kd.R_far (p := ⟨gb342, 0, none⟩) (Kd.R_types HO352.out BK342.out (by decide)) (fun _ hk => hk.2) (.slice Ao59 t350.length co59)) (fun _ hk => hk.2) (.int .i64 t353)) (fun _ hk => ⟨hk.1.1.1.2, ⟨hk.1.1.2, hk.1.2⟩⟩)⟩
         have n4_ : Aside0 (((w58.setCell ⟨gb342, 0, none⟩ (.slice Ao59 t350.length co59)).setCell ⟨gb342, 1, none⟩ (.int .i64 t353)).heap[gb327]? = some (.cells #[.slice A0_0 l0_0.length c0_0, .int .i64 a0_1] 46 (0, 0))) := ⟨bp_ BK327.out⟩
         have n5_ : Aside0 (((w58.setCell ⟨gb342, 0, none⟩ (.slice Ao59 t350.length co59)).setCell ⟨gb342, 1, none⟩ (.int .i64 t353)).heap[gb335]? = some (.cells #[.slice Ao54 t344.length co54, .int .i64 t347] 46 (0, 0))) := ⟨bp_ BK335.out⟩
         have n6_ : Aside0 (((w58.setCell ⟨gb342, 0, none⟩ (.slice Ao59 t350.length co59)).setCell ⟨gb342, 1, none⟩ (.int .i64 t353)).heap[gb342]? = some (.cells #[.slice Ao59 t350.length co59, .int .i64 t353] 46 (0, 0))) := ⟨bp_ BK342.out⟩
         have n7_ : Aside0 (Below w.heap.size w ((w58.setCell ⟨gb342, 0, none⟩ (.slice Ao59 t350.length co59)).setCell ⟨gb342, 1, none⟩ (.int .i64 t353))) := ⟨hb_ HB⟩
         (try clear HO_336000)
         (try clear HO_343000)
         (try clear HO346)
         (try clear HO352)
         (try clear BK327)
         (try clear BK335)
         (try clear BK342)
         (try clear HB)
         generalize ((w58.setCell ⟨gb342, 0, none⟩ (.slice Ao59 t350.length co59)).setCell ⟨gb342, 1, none⟩ (.int .i64 t353)) = w71 at n0_ n1_ n2_ n3_ n4_ n5_ n6_ n7_ ⊢
         have HO_336000 := n0_
         have HO_343000 := n1_
         have HO346 := n2_
         have HO352 := n3_
         have BK327 := n4_
         have BK335 := n5_
         have BK342 := n6_
         have HB := n7_
         clear n0_ n1_ n2_ n3_ n4_ n5_ n6_ n7_
         have n0_ := Aside0.mk (Kd.R_drew HO_336000.out)
         have n1_ := Aside0.mk (Kd.R_drew HO_343000.out)
         have n2_ := Aside0.mk (Kd.R_drew HO346.out)
         have n3_ := Aside0.mk (Kd.R_drew HO352.out)
         have n4_ := Aside0.mk (blk_drew BK327.out)
         have n5_ := Aside0.mk (blk_drew BK335.out)
         have n6_ := Aside0.mk (blk_drew BK342.out)
         have n7_ := Aside0.mk (below_drew1 HB.out)
         clear HO_336000
         clear HO_343000
         clear HO346
         clear HO352
         clear BK327
         clear BK335
         clear BK342
         clear HB
         have HO_336000 := n0_
         have HO_343000 := n1_
         have HO346 := n2_
         have HO352 := n3_
         have BK327 := n4_
         have BK335 := n5_
         have BK342 := n6_
         have HB := n7_
         clear n0_ n1_ n2_ n3_ n4_ n5_ n6_ n7_
         refine start_ (n := 24) (S := fun w' => w'.cell? ⟨gb335, 0, none⟩ = some (.slice Ao54 t344.length co54) ∧ w'.cell? ⟨gb335, 1, none⟩ = some (.int .i64 t347) ∧ w'.cell? ⟨gb342, 0, none⟩ = some (.slice Ao59 t350.length co59) ∧ w'.cell? ⟨gb342, 1, none⟩ = some (.int .i64 t353) ∧ w'.cell? ⟨gb327, 0, none⟩ = some (.slice A0_0 l0_0.length c0_0) ∧ w'.cell? ⟨gb327, 1, none⟩ = some (.int .i64 a0_1)) (ds := []) #[false, false, false, false, false, false, false, false, false, false, false, false, false, false, false, false, false, false, false, false, false, false, false, false] (by kernel_rfl) rfl rfl ⟨(blk_cell BK335.out 0).trans rfl, (blk_cell BK335.out 1).trans rfl, (blk_cell BK342.out 0).trans rfl, (blk_cell BK342.out 1).trans rfl, (blk_cell BK327.out 0).trans rfl, (blk_cell BK327.out 1).trans rfl⟩ (fun hHeld => ?_); refine with_tabW calamuslaw11_TreeSteps.tab9 calamuslaw11_TreeSteps.bits9 (fun HT_ HW_ => ?_)
         generalize w71.drew = w72 at HO_336000 HO_343000 HO346 HO352 BK327 BK335 BK342 HB hHeld ⊢
         refine take_ (i := 0) (N := some 56) (v := ?_) (a' := ?_) #[true, false, false, false, false, false, false, false, false, false, false, false, false, false, false, false, false, false, false, false, false, false, false, false] rfl rfl (take_ofW HT_.out HW_.out (by kernel_rfl)) (fun _ _ _ h => h) (Or.inl ⟨by rfl, ?_⟩) hHeld ?_ ?_
         rotate_left
         ·rintro w' ⟨s0, s1, s2, s3, s4, s5⟩
          go_simp
          with_reducible rfl
         rotate_left
         ·simp only [Act.put, List.setIfInBounds_toArray, List.set_cons_zero, List.set_cons_succ, i64_w, i32_w]
          rfl
         refine take_ (i := 1) (N := some 57) (v := ?_) (a' := ?_) #[true, true, false, false, false, false, false, false, false, false, false, false, false, false, false, false, false, false, false, false, false, false, false, false] rfl rfl (take_ofW HT_.out HW_.out (by kernel_rfl)) (fun _ _ _ h => h) (Or.inl ⟨by rfl, ?_⟩) hHeld ?_ ?_
         rotate_left
         ·rintro w' ⟨s0, s1, s2, s3, s4, s5⟩
          go_simp
          with_reducible rfl
         rotate_left
         ·simp only [Act.put, List.setIfInBounds_toArray, List.set_cons_zero, List.set_cons_succ, i64_w, i32_w]
          rfl
         refine one_ (i := 2) (N := some 58) #[true, true, true, false, false, false, false, false, false, false, false, false, false, false, false, false, false, false, false, false, false, false, false, false] rfl rfl (one_of HT_.out (by kernel_rfl)) (by decide) (fun K hK => ?_)
         refine goes_ Try.func38 (by kernel_rfl) rfl #[.agg #[.slice Ao54 t344.length co54, .int .i64 t347], .agg #[.slice Ao59 t350.length co59, .int .i64 t353]] (by rfl) rfl rfl (by (try simp only [List.map_toArray, List.map_cons, List.map_nil]); first | done | rfl | (simp only [List.length_drop, List.length_take]; rfl)) ?_
         with_reducible refine (calamusref11_Same.calls kj9 _ _ t344 t347 _ _ t350 t353 true _ ?side1 ?side2 ?side3 ?side4 A61.out).mono ?_
         (case side1 => repeat (first | exact (Kd.R_reads' HO346.out).2.2 | (with_reducible refine Kd.C_alloc ?_ _) | (with_reducible refine Kd.C_drewN ?_ _) | (with_reducible refine Kd.C_drew ?_)))
         (case side2 => exact (Kd.R_reads' HO346.out).2.1)
         (case side3 => repeat (first | exact (Kd.R_reads' HO352.out).2.2 | (with_reducible refine Kd.C_alloc ?_ _) | (with_reducible refine Kd.C_drewN ?_ _) | (with_reducible refine Kd.C_drew ?_)))
         (case side4 => exact (Kd.R_reads' HO352.out).2.1)
         rintro e w73 ⟨rfl, hb⟩
         refine ⟨_, rfl, ?_⟩
         have n0_ := Aside0.mk (Kd.R_below (rw_ HO_336000.out) hb)
         have n1_ := Aside0.mk (Kd.R_below (rw_ HO_343000.out) hb)
         have n2_ := Aside0.mk (Kd.R_below (rw_ HO346.out) hb)
         have n3_ := Aside0.mk (Kd.R_below (rw_ HO352.out) hb)
         have n4_ := bb_ BK327 hb
         have n5_ := bb_ BK335 hb
         have n6_ := bb_ BK342 hb
         have n7_ := bs_ HB hb
         clear HO_336000
         clear HO_343000
         clear HO346
         clear HO352
         clear BK327
         clear BK335
         clear BK342
         clear HB
         have HO_336000 := n0_
         have HO_343000 := n1_
         have HO346 := n2_
         have HO352 := n3_
         have BK327 := n4_
         have BK335 := n5_
         have BK342 := n6_
         have HB := n7_
         clear n0_ n1_ n2_ n3_ n4_ n5_ n6_ n7_
         (try clear hb)
         (try clear hb2)
         (try clear hk)
         (try clear hi)
         refine hK.out _ _ ⟨(blk_cell BK335.out 0).trans rfl, (blk_cell BK335.out 1).trans rfl, (blk_cell BK342.out 0).trans rfl, (blk_cell BK342.out 1).trans rfl, (blk_cell BK327.out 0).trans rfl, (blk_cell BK327.out 1).trans rfl⟩ (fun hHeld => ?_)
         clear hK K
         refine norm_ (a' := ?_) ?_ ?_
         rotate_left
         ·show Act.put _ (some 58) _ = _
          simp only [Act.put, List.setIfInBounds_toArray, List.set_cons_zero, List.set_cons_succ, i64_w, i32_w]
          rfl
         refine pure_ (i := 3) (N := some 59) (v := ?_) (a' := ?_) #[true, true, true, true, false, false, false, false, false, false, false, false, false, false, false, false, false, false, false, false, false, false, false, false] rfl rfl (any_of HT_.out (by kernel_rfl)) (fun _ _ _ h => h) (Or.inl ⟨by rfl, ?_⟩) ?_ ?_
         rotate_left
         ·intro w'
          go_simp
          with_reducible rfl
         rotate_left
         ·simp only [Act.put, List.setIfInBounds_toArray, List.set_cons_zero, List.set_cons_succ, i64_w, i32_w]
          rfl
         refine pure_ (i := 4) (N := some 60) (v := ?_) (a' := ?_) #[true, true, true, true, true, false, false, false, false, false, false, false, false, false, false, false, false, false, false, false, false, false, false, false] rfl rfl (any_of HT_.out (by kernel_rfl)) (fun _ _ _ h => h) (Or.inl ⟨by rfl, ?_⟩) ?_ ?_
         rotate_left
         ·intro w'
          go_simp
          with_reducible rfl
         rotate_left
         ·simp only [Act.put, List.setIfInBounds_toArray, List.set_cons_zero, List.set_cons_succ, i64_w, i32_w]
          rfl
         refine pure_ (i := 5) (N := some 61) (v := ?_) (a' := ?_) #[true, true, true, true, true, true, false, false, false, false, false, false, false, false, false, false, false, false, false, false, false, false, false, false] rfl rfl (any_of HT_.out (by kernel_rfl)) (fun _ _ _ h => h) (Or.inl ⟨by rfl, ?_⟩) ?_ ?_
         rotate_left
         ·intro w'
          go_simp
          with_reducible rfl
         rotate_left
         ·simp only [Act.put, List.setIfInBounds_toArray, List.set_cons_zero, List.set_cons_succ, i64_w, i32_w]
          rfl
         refine pure_ (i := 6) (N := some 62) (v := ?_) (a' := ?_) #[true, true, true, true, true, true, true, false, false, false, false, false, false, false, false, false, false, false, false, false, false, false, false, false] rfl rfl (any_of HT_.out (by kernel_rfl)) (fun _ _ _ h => h) (Or.inl ⟨by rfl, ?_⟩) ?_ ?_
         rotate_left
         ·intro w'
          go_simp
          with_reducible rfl
         rotate_left
         ·simp only [Act.put, List.setIfInBounds_toArray, List.set_cons_zero, List.set_cons_succ, i64_w, i32_w]
          rfl
         refine pure_ (i := 7) (N := some 63) (v := ?_) (a' := ?_) #[true, true, true, true, true, true, true, true, false, false, false, false, false, false, false, false, false, false, false, false, false, false, false, false] rfl rfl (any_of HT_.out (by kernel_rfl)) (fun _ _ _ h => h) (Or.inl ⟨by rfl, ?_⟩) ?_ ?_
         rotate_left
         ·intro w'
          go_simp
          with_reducible rfl
         rotate_left
         ·simp only [Act.put, List.setIfInBounds_toArray, List.set_cons_zero, List.set_cons_succ, i64_w, i32_w]
          rfl
         refine pure_ (i := 8) (N := some 64) (v := ?_) (a' := ?_) #[true, true, true, true, true, true, true, true, true, false, false, false, false, false, false, false, false, false, false, false, false, false, false, false] rfl rfl (any_of HT_.out (by kernel_rfl)) (fun _ _ _ h => h) (Or.inl ⟨by rfl, ?_⟩) ?_ ?_
         rotate_left
         ·intro w'
          go_simp
          with_reducible rfl
         rotate_left
         ·simp only [Act.put, List.setIfInBounds_toArray, List.set_cons_zero, List.set_cons_succ, i64_w, i32_w]
          rfl
         refine pure_ (i := 9) (N := some 65) (v := ?_) (a' := ?_) #[true, true, true, true, true, true, true, true, true, true, false, false, false, false, false, false, false, false, false, false, false, false, false, false] rfl rfl (any_of HT_.out (by kernel_rfl)) (fun _ _ _ h => h) (Or.inl ⟨by rfl, ?_⟩) ?_ ?_
         rotate_left
         ·intro w'
          go_simp
          with_reducible rfl
         rotate_left
         ·simp only [Act.put, List.setIfInBounds_toArray, List.set_cons_zero, List.set_cons_succ, i64_w, i32_w]
          rfl
         refine pure_ (i := 10) (N := some 66) (v := ?_) (a' := ?_) #[true, true, true, true, true, true, true, true, true, true, true, false, false, false, false, false, false, false, false, false, false, false, false, false] rfl rfl (any_of HT_.out (by kernel_rfl)) (fun _ _ _ h => h) (Or.inl ⟨by rfl, ?_⟩) ?_ ?_
         rotate_left
         ·intro w'
          go_simp
          with_reducible rfl
         rotate_left
         ·simp only [Act.put, List.setIfInBounds_toArray, List.set_cons_zero, List.set_cons_succ, i64_w, i32_w]
          rfl
         refine pure_ (i := 11) (N := some 67) (v := ?_) (a' := ?_) #[true, true, true, true, true, true, true, true, true, true, true, true, false, false, false, false, false, false, false, false, false, false, false, false] rfl rfl (any_of HT_.out (by kernel_rfl)) (fun _ _ _ h => h) (Or.inl ⟨by rfl, ?_⟩) ?_ ?_
         rotate_left
         ·intro w'
          go_simp
          with_reducible rfl
         rotate_left
         ·simp only [Act.put, List.setIfInBounds_toArray, List.set_cons_zero, List.set_cons_succ, i64_w, i32_w]
          rfl
         refine pure_ (i := 12) (N := some 68) (v := ?_) (a' := ?_) #[true, true, true, true, true, true, true, true, true, true, true, true, true, false, false, false, false, false, false, false, false, false, false, false] rfl rfl (any_of HT_.out (by kernel_rfl)) (fun _ _ _ h => h) (Or.inl ⟨by rfl, ?_⟩) ?_ ?_
         rotate_left
         ·intro w'
          go_simp
          with_reducible rfl
         rotate_left
         ·simp only [Act.put, List.setIfInBounds_toArray, List.set_cons_zero, List.set_cons_succ, i64_w, i32_w]
          rfl
         refine pure_ (i := 13) (N := some 69) (v := ?_) (a' := ?_) #[true, true, true, true, true, true, true, true, true, true, true, true, true, true, false, false, false, false, false, false, false, false, false, false] rfl rfl (any_of HT_.out (by kernel_rfl)) (fun _ _ _ h => h) (Or.inl ⟨by rfl, ?_⟩) ?_ ?_
         rotate_left
         ·intro w'
          go_simp
          with_reducible rfl
         rotate_left
         ·simp only [Act.put, List.setIfInBounds_toArray, List.set_cons_zero, List.set_cons_succ, i64_w, i32_w]
          rfl
         refine pure_ (i := 14) (N := some 70) (v := ?_) (a' := ?_) #[true, true, true, true, true, true, true, true, true, true, true, true, true, true, true, false, false, false, false, false, false, false, false, false] rfl rfl (any_of HT_.out (by kernel_rfl)) (fun _ _ _ h => h) (Or.inl ⟨by rfl, ?_⟩) ?_ ?_
         rotate_left
         ·intro w'
          go_simp
          with_reducible rfl
         rotate_left
         ·simp only [Act.put, List.setIfInBounds_toArray, List.set_cons_zero, List.set_cons_succ, i64_w, i32_w]
          rfl
         refine pure_ (i := 16) (N := some 72) (v := ?_) (a' := ?_) #[true, true, true, true, true, true, true, true, true, true, true, true, true, true, true, false, true, false, false, false, false, false, false, false] rfl rfl (any_of HT_.out (by kernel_rfl)) (fun _ _ _ h => h) (Or.inl ⟨by rfl, ?_⟩) ?_ ?_
         rotate_left
         ·intro w'
          go_simp
          with_reducible rfl
         rotate_left
         ·simp only [Act.put, List.setIfInBounds_toArray, List.set_cons_zero, List.set_cons_succ, i64_w, i32_w]
          rfl
         refine pure_ (i := 19) (N := some 75) (v := ?_) (a' := ?_) #[true, true, true, true, true, true, true, true, true, true, true, true, true, true, true, false, true, false, false, true, false, false, false, false] rfl rfl (any_of HT_.out (by kernel_rfl)) (fun _ _ _ h => h) (Or.inl ⟨by rfl, ?_⟩) ?_ ?_
         rotate_left
         ·intro w'
          go_simp
          with_reducible rfl
         rotate_left
         ·simp only [Act.put, List.setIfInBounds_toArray, List.set_cons_zero, List.set_cons_succ, i64_w, i32_w]
          rfl
         refine take_ (i := 15) (N := some 71) (v := ?_) (a' := ?_) #[true, true, true, true, true, true, true, true, true, true, true, true, true, true, true, true, true, false, false, true, false, false, false, false] rfl rfl (take_ofW HT_.out HW_.out (by kernel_rfl)) (fun _ _ _ h => h) (Or.inl ⟨by rfl, ?_⟩) hHeld ?_ ?_
         rotate_left
         ·rintro w' ⟨s0, s1, s2, s3, s4, s5⟩
          go_simp
          with_reducible rfl
         rotate_left
         ·simp only [Act.put, List.setIfInBounds_toArray, List.set_cons_zero, List.set_cons_succ, i64_w, i32_w]
          rfl
         refine take_ (i := 18) (N := some 74) (v := ?_) (a' := ?_) #[true, true, true, true, true, true, true, true, true, true, true, true, true, true, true, true, true, false, true, true, false, false, false, false] rfl rfl (take_ofW HT_.out HW_.out (by kernel_rfl)) (fun _ _ _ h => h) (Or.inl ⟨by rfl, ?_⟩) hHeld ?_ ?_
         rotate_left
         ·rintro w' ⟨s0, s1, s2, s3, s4, s5⟩
          go_simp
          with_reducible rfl
         rotate_left
         ·simp only [Act.put, List.setIfInBounds_toArray, List.set_cons_zero, List.set_cons_succ, i64_w, i32_w]
          rfl
         refine one_ (i := 17) (N := some 73) #[true, true, true, true, true, true, true, true, true, true, true, true, true, true, true, true, true, true, true, true, false, false, false, false] rfl rfl (one_of HT_.out (by kernel_rfl)) (by decide) (fun K hK => ?_)
         refine goes_ Try.func47 (by kernel_rfl) rfl #[.agg #[.slice A0_0 l0_0.length c0_0, .int .i64 a0_1], .int .i64 a1] (by rfl) rfl rfl (by (try simp only [List.map_toArray, List.map_cons, List.map_nil]); first | done | rfl | (simp only [List.length_drop, List.length_take]; rfl)) ?_
         with_reducible refine (tree_Kids.calls kj9 _ _ l0_0 a0_1 a1 t357 _ ?side1 ?side2 A68.out).mono ?_
         (case side1 => exact cw_ (Kd.C_below HR0_0.out HB.out))
         (case side2 => exact HC0_0.out)
         rintro e w74 ⟨v358, rfl, ho0, hb⟩
         refine ⟨_, rfl, ?_⟩
         have n0_ := Aside0.mk (Kd.R_below (rw_ HO_336000.out) hb)
         have n1_ := Aside0.mk (Kd.R_below (rw_ HO_343000.out) hb)
         have n2_ := Aside0.mk (Kd.R_below (rw_ HO346.out) hb)
         have n3_ := Aside0.mk (Kd.R_below (rw_ HO352.out) hb)
         have n4_ := Aside0.mk (Kd.R_lower ho0 (below_size (hb_ HB)))
         have n5_ := bb_ BK327 hb
         have n6_ := bb_ BK335 hb
         have n7_ := bb_ BK342 hb
         have n8_ := bs_ HB hb
         clear HO_336000
         clear HO_343000
         clear HO346
         clear HO352
         clear BK327
         clear BK335
         clear BK342
         clear HB
         have HO_336000 := n0_
         have HO_343000 := n1_
         have HO346 := n2_
         have HO352 := n3_
         have HO359 := n4_
         have BK327 := n5_
         have BK335 := n6_
         have BK342 := n7_
         have HB := n8_
         clear n0_ n1_ n2_ n3_ n4_ n5_ n6_ n7_ n8_
         (try clear hb)
         (try clear hb2)
         (try clear hk)
         (try clear hi)
         (try clear ho0)
         refine hK.out _ _ ⟨(blk_cell BK335.out 0).trans rfl, (blk_cell BK335.out 1).trans rfl, (blk_cell BK342.out 0).trans rfl, (blk_cell BK342.out 1).trans rfl, (blk_cell BK327.out 0).trans rfl, (blk_cell BK327.out 1).trans rfl⟩ (fun hHeld => ?_)
         clear hK K
         refine norm_ (a' := ?_) ?_ ?_
         rotate_left
         ·show Act.put _ (some 73) _ = _
          simp only [Act.put, List.setIfInBounds_toArray, List.set_cons_zero, List.set_cons_succ, i64_w, i32_w]
          rfl
         refine one_ (i := 20) (N := some 76) #[true, true, true, true, true, true, true, true, true, true, true, true, true, true, true, true, true, true, true, true, true, false, false, false] rfl rfl (one_of HT_.out (by kernel_rfl)) (by decide) (fun K hK => ?_)
         refine goes_ Try.func48 (by kernel_rfl) rfl #[.agg #[.slice A0_0 l0_0.length c0_0, .int .i64 a0_1], .int .i64 a1] (by rfl) rfl rfl (by (try simp only [List.map_toArray, List.map_cons, List.map_nil]); first | done | rfl | (simp only [List.length_drop, List.length_take]; rfl)) ?_
         with_reducible refine (calamusref11_Kids.calls kj9 _ _ l0_0 a0_1 a1 t360 _ ?side1 ?side2 A69.out).mono ?_
         (case side1 => exact cw_ (Kd.C_below HR0_0.out HB.out))
         (case side2 => exact HC0_0.out)
         rintro e w75 ⟨v361, rfl, ho0, hb⟩
         refine ⟨_, rfl, ?_⟩
         have n0_ := Aside0.mk (Kd.R_below (rw_ HO_336000.out) hb)
         have n1_ := Aside0.mk (Kd.R_below (rw_ HO_343000.out) hb)
         have n2_ := Aside0.mk (Kd.R_below (rw_ HO346.out) hb)
         have n3_ := Aside0.mk (Kd.R_below (rw_ HO352.out) hb)
         have n4_ := Aside0.mk (Kd.R_elder' (rw_ HO359.out) (Kd.R_base ho0) hb)
         have n5_ := Aside0.mk (Kd.R_lower (Kd.R_new' ho0 (Kd.R_lt (rw_ HO359.out))) (below_size (hb_ HB)))
         have n6_ := bb_ BK327 hb
         have n7_ := bb_ BK335 hb
         have n8_ := bb_ BK342 hb
         have n9_ := bs_ HB hb
         clear HO_336000
         clear HO_343000
         clear HO346
         clear HO352
         clear HO359
         clear BK327
         clear BK335
         clear BK342
         clear HB
         have HO_336000 := n0_
         have HO_343000 := n1_
         have HO346 := n2_
         have HO352 := n3_
         have HO359 := n4_
         have HO362 := n5_
         have BK327 := n6_
         have BK335 := n7_
         have BK342 := n8_
         have HB := n9_
         clear n0_ n1_ n2_ n3_ n4_ n5_ n6_ n7_ n8_ n9_
         (try clear hb)
         (try clear hb2)
         (try clear hk)
         (try clear hi)
         (try clear ho0)
         obtain ⟨Ao76, co76, eo76⟩ := Kd.R_slice HO359.out
         (first | subst eo76 | (injection eo76 with f1_ f2_ f3_; have f4_ := f1_.symm; have f5_ := f3_.symm; clear f1_ f2_ f3_; subst f4_; subst f5_))
         obtain ⟨Ao77, co77, eo77⟩ := Kd.R_slice HO362.out
         (first | subst eo77 | (injection eo77 with f1_ f2_ f3_; have f4_ := f1_.symm; have f5_ := f3_.symm; clear f1_ f2_ f3_; subst f4_; subst f5_))
         refine hK.out _ _ ⟨(blk_cell BK335.out 0).trans rfl, (blk_cell BK335.out 1).trans rfl, (blk_cell BK342.out 0).trans rfl, (blk_cell BK342.out 1).trans rfl, (blk_cell BK327.out 0).trans rfl, (blk_cell BK327.out 1).trans rfl⟩ (fun hHeld => ?_)
         clear hK K
         refine norm_ (a' := ?_) ?_ ?_
         rotate_left
         ·show Act.put _ (some 76) _ = _
          simp only [Act.put, List.setIfInBounds_toArray, List.set_cons_zero, List.set_cons_succ, i64_w, i32_w]
          rfl
         refine one_ (i := 21) (N := some 77) #[true, true, true, true, true, true, true, true, true, true, true, true, true, true, true, true, true, true, true, true, true, true, false, false] rfl rfl (one_of HT_.out (by kernel_rfl)) (by decide) (fun K hK => ?_)
         refine goes_ Try.func46 (by kernel_rfl) rfl #[.slice Ao76 t357.length co76, .slice Ao77 t360.length co77] (by rfl) rfl rfl (by (try simp only [List.map_toArray, List.map_cons, List.map_nil]); first | done | rfl | (simp only [List.length_drop, List.length_take]; rfl)) ?_
         with_reducible refine (calamusref01_Same.calls kj9 _ _ t357 _ _ t360 t363 _ ?side1 ?side2 ?side3 ?side4 A70.out).mono ?_
         (case side1 => repeat (first | exact (Kd.R_reads' HO359.out).2.2 | (with_reducible refine Kd.C_alloc ?_ _) | (with_reducible refine Kd.C_drewN ?_ _) | (with_reducible refine Kd.C_drew ?_)))
         (case side2 => exact (Kd.R_reads' HO359.out).2.1)
         (case side3 => repeat (first | exact (Kd.R_reads' HO362.out).2.2 | (with_reducible refine Kd.C_alloc ?_ _) | (with_reducible refine Kd.C_drewN ?_ _) | (with_reducible refine Kd.C_drew ?_)))
         (case side4 => exact (Kd.R_reads' HO362.out).2.1)
         rintro e w' ⟨rfl, ⟨nd, rfl⟩⟩
         refine ⟨_, rfl, ?_⟩
         refine hK.out _ _ ⟨(blk_cell BK335.out 0).trans rfl, (blk_cell BK335.out 1).trans rfl, (blk_cell BK342.out 0).trans rfl, (blk_cell BK342.out 1).trans rfl, (blk_cell BK327.out 0).trans rfl, (blk_cell BK327.out 1).trans rfl⟩ (fun hHeld => ?_)
         clear hK K
         refine norm_ (a' := ?_) ?_ ?_
         rotate_left
         ·show Act.put _ (some 77) _ = _
          simp only [Act.put, List.setIfInBounds_toArray, List.set_cons_zero, List.set_cons_succ, i64_w, i32_w]
          rfl
         refine pure_ (i := 22) (N := some 78) (v := ?_) (a' := ?_) #[true, true, true, true, true, true, true, true, true, true, true, true, true, true, true, true, true, true, true, true, true, true, true, false] rfl rfl (any_of HT_.out (by kernel_rfl)) (fun _ _ _ h => h) (Or.inl ⟨by rfl, ?_⟩) ?_ ?_
         rotate_left
         ·intro w'
          go_simp
          with_reducible rfl
         rotate_left
         ·simp only [Act.put, List.setIfInBounds_toArray, List.set_cons_zero, List.set_cons_succ, i64_w, i32_w]
          rfl
         refine pure_ (i := 23) (N := some 79) (v := ?_) (a' := ?_) #[true, true, true, true, true, true, true, true, true, true, true, true, true, true, true, true, true, true, true, true, true, true, true, true] rfl rfl (any_of HT_.out (by kernel_rfl)) (fun _ _ _ h => h) (Or.inl ⟨by rfl, ?_⟩) ?_ ?_
         rotate_left
         ·intro w'
          go_simp
          with_reducible rfl
         rotate_left
         ·simp only [Act.put, List.setIfInBounds_toArray, List.set_cons_zero, List.set_cons_succ, i64_w, i32_w]
          rfl
         refine done_ (done_of HT_.out (by kernel_rfl)) ?_
         try go_wp2
         go_meet
         case rel => exact ⟨_, (!t363), (by first | rfl | (simp; done) | (simp [*]; done)), H', ⟨by have := HJ9.out; first | omega | exact Nat.le_refl _⟩, ⟨by (with_reducible repeat (first | apply Kd.R_alloc | apply Kd.R_drewN | apply Kd.R_drew)); exact Kd.R_mono HO346.out (fun _ hk => hk.2.2)⟩, ⟨by (with_reducible repeat (first | apply Kd.R_alloc | apply Kd.R_drewN | apply Kd.R_drew)); exact Kd.R_mono HO352.out (fun _ hk => hk.2.2)⟩, ⟨bw_ BK327.out⟩, ⟨bw_ BK335.out⟩, ⟨bw_ BK342.out⟩, ⟨hb_ HB⟩⟩
       ·rw [if_neg c63] at H
        have c63b0 : (t348 == t354) = false := beq_eq_false_iff_ne.mpr c63
        have c63b1 : (t348 != t354) = true := bne_iff_ne.mpr c63
        (first | rw [c63b0] | (simp only [i64_w, i32_w]; rw [c63b0]) | skip)
        have H' := Aside0.mk H
        clear H
        try go_wp2
        have n0_ : Aside0 (Kd.R k69 69 ((w58.setCell ⟨gb342, 0, none⟩ (.slice Ao59 t350.length co59)).setCell ⟨gb342, 1, none⟩ (.int .i64 t353)) w.heap.size (fun k_ => some k_ ≠ (.slice Ao21 t336.length co21 : Value).ownBlock ∧ some k_ ≠ (.slice Ao54 t344.length co54 : Value).ownBlock ∧ some k_ ≠ (.slice Ao59 t350.length co59 : Value).ownBlock) (.slice Ao15 t329.length co15) t329) := ⟨by (with_reducible repeat (first | apply Kd.R_alloc | apply Kd.R_drewN | apply Kd.R_drew)); exact Kd.R_mono (Kd.R_far (p := ⟨gb342, 1, none⟩) (Kd.R_far (p := ⟨gb342, 0, none⟩) (Kd.R_types HO_336000.out BK342.out (by decide)) (fun _ hk => hk.2) (.slice Ao59 t350.length co59)) (fun _ hk => hk.2) (.int .i64 t353)) (fun _ hk => ⟨hk.1.1.1, ⟨hk.1.1.2, hk.1.2⟩⟩)⟩
        have n1_ : Aside0 (Kd.R k69 69 ((w58.setCell ⟨gb342, 0, none⟩ (.slice Ao59 t350.length co59)).setCell ⟨gb342, 1, none⟩ (.int .i64 t353)) w.heap.size (fun k_ => some k_ ≠ (.slice Ao15 t329.length co15 : Value).ownBlock ∧ some k_ ≠ (.slice Ao54 t344.length co54 : Value).ownBlock ∧ some k_ ≠ (.slice Ao59 t350.length co59 : Value).ownBlock) (.slice Ao21 t336.length co21) t336) := ⟨by (with_reducible repeat (first | apply Kd.R_alloc | apply Kd.R_drewN | apply Kd.R_drew)); exact Kd.R_mono (Kd.R_far (p := ⟨gb342, 1, none⟩) (Kd.R_far (p := ⟨gb342, 0, none⟩) (Kd.R_types HO_343000.out BK342.out (by decide)) (fun _ hk => hk.2) (.slice Ao59 t350.length co59)) (fun _ hk => hk.2) (.int .i64 t353)) (fun _ hk => ⟨hk.1.1.1, ⟨hk.1.1.2, hk.1.2⟩⟩)⟩
        have n2_ : Aside0 (Kd.R k69 69 ((w58.setCell ⟨gb342, 0, none⟩ (.slice Ao59 t350.length co59)).setCell ⟨gb342, 1, none⟩ (.int .i64 t353)) w.heap.size (fun k_ => some k_ ≠ (.slice Ao15 t329.length co15 : Value).ownBlock ∧ some k_ ≠ (.slice Ao21 t336.length co21 : Value).ownBlock ∧ some k_ ≠ (.slice Ao59 t350.length co59 : Value).ownBlock) (.slice Ao54 t344.length co54) t344) := ⟨by (with_reducible repeat (first | apply Kd.R_alloc | apply Kd.R_drewN | apply Kd.R_drew)); exact Kd.R_mono (Kd.R_far (p := ⟨gb342, 1, none⟩) (Kd.R_far (p := ⟨gb342, 0, none⟩) (Kd.R_types HO346.out BK342.out (by decide)) (fun _ hk => hk.2) (.slice Ao59 t350.length co59)) (fun _ hk => hk.2) (.int .i64 t353)) (fun _ hk => ⟨hk.1.1.1.2, ⟨hk.1.1.2, hk.1.2⟩⟩)⟩
        have n3_ : Aside0 (Kd.R k69 69 ((w58.setCell ⟨gb342, 0, none⟩ (.slice Ao59 t350.length co59)).setCell ⟨gb342, 1, none⟩ (.int .i64 t353)) w.heap.size (fun k_ => some k_ ≠ (.slice Ao15 t329.length co15 : Value).ownBlock ∧ some k_ ≠ (.slice Ao21 t336.length co21 : Value).ownBlock ∧ some k_ ≠ (.slice Ao54 t344.length co54 : Value).ownBlock) (.slice Ao59 t350.length co59) t350) := ⟨by (with_reducible repeat (first | apply Kd.R_alloc | apply Kd.R_drewN | apply Kd.R_drew)); exact Kd.R_mono (Kd.R_far (p := ⟨gb342, 1, none⟩) (Kd.R_far (p := ⟨gb342, 0, none⟩) (Kd.R_types HO352.out BK342.out (by decide)) (fun _ hk => hk.2) (.slice Ao59 t350.length co59)) (fun _ hk => hk.2) (.int .i64 t353)) (fun _ hk => ⟨hk.1.1.1.2, ⟨hk.1.1.2, hk.1.2⟩⟩)⟩
        have n4_ : Aside0 (((w58.setCell ⟨gb342, 0, none⟩ (.slice Ao59 t350.length co59)).setCell ⟨gb342, 1, none⟩ (.int .i64 t353)).heap[gb327]? = some (.cells #[.slice A0_0 l0_0.length c0_0, .int .i64 a0_1] 46 (0, 0))) := ⟨bp_ BK327.out⟩
        have n5_ : Aside0 (((w58.setCell ⟨gb342, 0, none⟩ (.slice Ao59 t350.length co59)).setCell ⟨gb342, 1, none⟩ (.int .i64 t353)).heap[gb335]? = some (.cells #[.slice Ao54 t344.length co54, .int .i64 t347] 46 (0, 0))) := ⟨bp_ BK335.out⟩
        have n6_ : Aside0 (((w58.setCell ⟨gb342, 0, none⟩ (.slice Ao59 t350.length co59)).setCell ⟨gb342, 1, none⟩ (.int .i64 t353)).heap[gb342]? = some (.cells #[.slice Ao59 t350.length co59, .int .i64 t353] 46 (0, 0))) := ⟨bp_ BK342.out⟩
        have n7_ : Aside0 (Below w.heap.size w ((w58.setCell ⟨gb342, 0, none⟩ (.slice Ao59 t350.length co59)).setCell ⟨gb342, 1, none⟩ (.int .i64 t353))) := ⟨hb_ HB⟩
        (try clear HO_336000)
        (try clear HO_343000)
        (try clear HO346)
        (try clear HO352)
        (try clear BK327)
        (try clear BK335)
        (try clear BK342)
        (try clear HB)
        generalize ((w58.setCell ⟨gb342, 0, none⟩ (.slice Ao59 t350.length co59)).setCell ⟨gb342, 1, none⟩ (.int .i64 t353)) = w78 at n0_ n1_ n2_ n3_ n4_ n5_ n6_ n7_ ⊢
        have HO_336000 := n0_
        have HO_343000 := n1_
        have HO346 := n2_
        have HO352 := n3_
        have BK327 := n4_
        have BK335 := n5_
        have BK342 := n6_
        have HB := n7_
        clear n0_ n1_ n2_ n3_ n4_ n5_ n6_ n7_
        have n0_ := Aside0.mk (Kd.R_drew HO_336000.out)
        have n1_ := Aside0.mk (Kd.R_drew HO_343000.out)
        have n2_ := Aside0.mk (Kd.R_drew HO346.out)
        have n3_ := Aside0.mk (Kd.R_drew HO352.out)
        have n4_ := Aside0.mk (blk_drew BK327.out)
        have n5_ := Aside0.mk (blk_drew BK335.out)
        have n6_ := Aside0.mk (blk_drew BK342.out)
        have n7_ := Aside0.mk (below_drew1 HB.out)
        clear HO_336000
        clear HO_343000
        clear HO346
        clear HO352
        clear BK327
        clear BK335
        clear BK342
        clear HB
        have HO_336000 := n0_
        have HO_343000 := n1_
        have HO346 := n2_
        have HO352 := n3_
        have BK327 := n4_
        have BK335 := n5_
        have BK342 := n6_
        have HB := n7_
        clear n0_ n1_ n2_ n3_ n4_ n5_ n6_ n7_
        refine start_ (n := 24) (S := fun w' => w'.cell? ⟨gb335, 0, none⟩ = some (.slice Ao54 t344.length co54) ∧ w'.cell? ⟨gb335, 1, none⟩ = some (.int .i64 t347) ∧ w'.cell? ⟨gb342, 0, none⟩ = some (.slice Ao59 t350.length co59) ∧ w'.cell? ⟨gb342, 1, none⟩ = some (.int .i64 t353)) (ds := []) #[false, false, false, false, false, false, false, false, false, false, false, false, false, false, false, false, false, false, false, false, false, false, false, false] (by kernel_rfl) rfl rfl ⟨(blk_cell BK335.out 0).trans rfl, (blk_cell BK335.out 1).trans rfl, (blk_cell BK342.out 0).trans rfl, (blk_cell BK342.out 1).trans rfl⟩ (fun hHeld => ?_); refine with_tabW calamuslaw11_TreeSteps.tab9 calamuslaw11_TreeSteps.bits9 (fun HT_ HW_ => ?_)
        generalize w78.drew = w79 at HO_336000 HO_343000 HO346 HO352 BK327 BK335 BK342 HB hHeld ⊢
        refine take_ (i := 0) (N := some 56) (v := ?_) (a' := ?_) #[true, false, false, false, false, false, false, false, false, false, false, false, false, false, false, false, false, false, false, false, false, false, false, false] rfl rfl (take_ofW HT_.out HW_.out (by kernel_rfl)) (fun _ _ _ h => h) (Or.inl ⟨by rfl, ?_⟩) hHeld ?_ ?_
        rotate_left
        ·rintro w' ⟨s0, s1, s2, s3⟩
         go_simp
         with_reducible rfl
        rotate_left
        ·simp only [Act.put, List.setIfInBounds_toArray, List.set_cons_zero, List.set_cons_succ, i64_w, i32_w]
         rfl
        refine take_ (i := 1) (N := some 57) (v := ?_) (a' := ?_) #[true, true, false, false, false, false, false, false, false, false, false, false, false, false, false, false, false, false, false, false, false, false, false, false] rfl rfl (take_ofW HT_.out HW_.out (by kernel_rfl)) (fun _ _ _ h => h) (Or.inl ⟨by rfl, ?_⟩) hHeld ?_ ?_
        rotate_left
        ·rintro w' ⟨s0, s1, s2, s3⟩
         go_simp
         with_reducible rfl
        rotate_left
        ·simp only [Act.put, List.setIfInBounds_toArray, List.set_cons_zero, List.set_cons_succ, i64_w, i32_w]
         rfl
        refine one_ (i := 2) (N := some 58) #[true, true, true, false, false, false, false, false, false, false, false, false, false, false, false, false, false, false, false, false, false, false, false, false] rfl rfl (one_of HT_.out (by kernel_rfl)) (by decide) (fun K hK => ?_)
        refine goes_ Try.func38 (by kernel_rfl) rfl #[.agg #[.slice Ao54 t344.length co54, .int .i64 t347], .agg #[.slice Ao59 t350.length co59, .int .i64 t353]] (by rfl) rfl rfl (by (try simp only [List.map_toArray, List.map_cons, List.map_nil]); first | done | rfl | (simp only [List.length_drop, List.length_take]; rfl)) ?_
        with_reducible refine (calamusref11_Same.calls kj9 _ _ t344 t347 _ _ t350 t353 true _ ?side1 ?side2 ?side3 ?side4 A61.out).mono ?_
        (case side1 => repeat (first | exact (Kd.R_reads' HO346.out).2.2 | (with_reducible refine Kd.C_alloc ?_ _) | (with_reducible refine Kd.C_drewN ?_ _) | (with_reducible refine Kd.C_drew ?_)))
        (case side2 => exact (Kd.R_reads' HO346.out).2.1)
        (case side3 => repeat (first | exact (Kd.R_reads' HO352.out).2.2 | (with_reducible refine Kd.C_alloc ?_ _) | (with_reducible refine Kd.C_drewN ?_ _) | (with_reducible refine Kd.C_drew ?_)))
        (case side4 => exact (Kd.R_reads' HO352.out).2.1)
        rintro e w80 ⟨rfl, hb⟩
        refine ⟨_, rfl, ?_⟩
        have n0_ := Aside0.mk (Kd.R_below (rw_ HO_336000.out) hb)
        have n1_ := Aside0.mk (Kd.R_below (rw_ HO_343000.out) hb)
        have n2_ := Aside0.mk (Kd.R_below (rw_ HO346.out) hb)
        have n3_ := Aside0.mk (Kd.R_below (rw_ HO352.out) hb)
        have n4_ := bb_ BK327 hb
        have n5_ := bb_ BK335 hb
        have n6_ := bb_ BK342 hb
        have n7_ := bs_ HB hb
        clear HO_336000
        clear HO_343000
        clear HO346
        clear HO352
        clear BK327
        clear BK335
        clear BK342
        clear HB
        have HO_336000 := n0_
        have HO_343000 := n1_
        have HO346 := n2_
        have HO352 := n3_
        have BK327 := n4_
        have BK335 := n5_
        have BK342 := n6_
        have HB := n7_
        clear n0_ n1_ n2_ n3_ n4_ n5_ n6_ n7_
        (try clear hb)
        (try clear hb2)
        (try clear hk)
        (try clear hi)
        refine hK.out _ _ ⟨(blk_cell BK335.out 0).trans rfl, (blk_cell BK335.out 1).trans rfl, (blk_cell BK342.out 0).trans rfl, (blk_cell BK342.out 1).trans rfl⟩ (fun hHeld => ?_)
        clear hK K
        refine norm_ (a' := ?_) ?_ ?_
        rotate_left
        ·show Act.put _ (some 58) _ = _
         simp only [Act.put, List.setIfInBounds_toArray, List.set_cons_zero, List.set_cons_succ, i64_w, i32_w]
         rfl
        refine pure_ (i := 3) (N := some 59) (v := ?_) (a' := ?_) #[true, true, true, true, false, false, false, false, false, false, false, false, false, false, false, false, false, false, false, false, false, false, false, false] rfl rfl (any_of HT_.out (by kernel_rfl)) (fun _ _ _ h => h) (Or.inl ⟨by rfl, ?_⟩) ?_ ?_
        rotate_left
        ·intro w'
         go_simp
         with_reducible rfl
        rotate_left
        ·simp only [Act.put, List.setIfInBounds_toArray, List.set_cons_zero, List.set_cons_succ, i64_w, i32_w]
         rfl
        refine pure_ (i := 4) (N := some 60) (v := ?_) (a' := ?_) #[true, true, true, true, true, false, false, false, false, false, false, false, false, false, false, false, false, false, false, false, false, false, false, false] rfl rfl (any_of HT_.out (by kernel_rfl)) (fun _ _ _ h => h) (Or.inl ⟨by rfl, ?_⟩) ?_ ?_
        rotate_left
        ·intro w'
         go_simp
         with_reducible rfl
        rotate_left
        ·simp only [Act.put, List.setIfInBounds_toArray, List.set_cons_zero, List.set_cons_succ, i64_w, i32_w]
         rfl
        refine pure_ (i := 5) (N := some 61) (v := ?_) (a' := ?_) #[true, true, true, true, true, true, false, false, false, false, false, false, false, false, false, false, false, false, false, false, false, false, false, false] rfl rfl (any_of HT_.out (by kernel_rfl)) (fun _ _ _ h => h) (Or.inl ⟨by rfl, ?_⟩) ?_ ?_
        rotate_left
        ·intro w'
         go_simp
         with_reducible rfl
        rotate_left
        ·simp only [Act.put, List.setIfInBounds_toArray, List.set_cons_zero, List.set_cons_succ, i64_w, i32_w]
         rfl
        refine pure_ (i := 6) (N := some 62) (v := ?_) (a' := ?_) #[true, true, true, true, true, true, true, false, false, false, false, false, false, false, false, false, false, false, false, false, false, false, false, false] rfl rfl (any_of HT_.out (by kernel_rfl)) (fun _ _ _ h => h) (Or.inl ⟨by rfl, ?_⟩) ?_ ?_
        rotate_left
        ·intro w'
         go_simp
         with_reducible rfl
        rotate_left
        ·simp only [Act.put, List.setIfInBounds_toArray, List.set_cons_zero, List.set_cons_succ, i64_w, i32_w]
         rfl
        refine pure_ (i := 7) (N := some 63) (v := ?_) (a' := ?_) #[true, true, true, true, true, true, true, true, false, false, false, false, false, false, false, false, false, false, false, false, false, false, false, false] rfl rfl (any_of HT_.out (by kernel_rfl)) (fun _ _ _ h => h) (Or.inl ⟨by rfl, ?_⟩) ?_ ?_
        rotate_left
        ·intro w'
         go_simp
         with_reducible rfl
        rotate_left
        ·simp only [Act.put, List.setIfInBounds_toArray, List.set_cons_zero, List.set_cons_succ, i64_w, i32_w]
         rfl
        refine pure_ (i := 8) (N := some 64) (v := ?_) (a' := ?_) #[true, true, true, true, true, true, true, true, true, false, false, false, false, false, false, false, false, false, false, false, false, false, false, false] rfl rfl (any_of HT_.out (by kernel_rfl)) (fun _ _ _ h => h) (Or.inl ⟨by rfl, ?_⟩) ?_ ?_
        rotate_left
        ·intro w'
         go_simp
         with_reducible rfl
        rotate_left
        ·simp only [Act.put, List.setIfInBounds_toArray, List.set_cons_zero, List.set_cons_succ, i64_w, i32_w]
         rfl
        refine pure_ (i := 9) (N := some 65) (v := ?_) (a' := ?_) #[true, true, true, true, true, true, true, true, true, true, false, false, false, false, false, false, false, false, false, false, false, false, false, false] rfl rfl (any_of HT_.out (by kernel_rfl)) (fun _ _ _ h => h) (Or.inl ⟨by rfl, ?_⟩) ?_ ?_
        rotate_left
        ·intro w'
         go_simp
         with_reducible rfl
        rotate_left
        ·simp only [Act.put, List.setIfInBounds_toArray, List.set_cons_zero, List.set_cons_succ, i64_w, i32_w]
         rfl
        refine pure_ (i := 10) (N := some 66) (v := undef) (a' := ?_) #[true, true, true, true, true, true, true, true, true, true, true, false, false, false, false, false, false, false, false, false, false, false, false, false] rfl rfl (any_of HT_.out (by kernel_rfl)) (fun _ _ _ h => h) (Or.inr ⟨by rfl, rfl⟩) ?_ ?_
        rotate_left
        ·simp only [Act.put, List.setIfInBounds_toArray, List.set_cons_zero, List.set_cons_succ, i64_w, i32_w]
         rfl
        refine pure_ (i := 11) (N := some 67) (v := undef) (a' := ?_) #[true, true, true, true, true, true, true, true, true, true, true, true, false, false, false, false, false, false, false, false, false, false, false, false] rfl rfl (any_of HT_.out (by kernel_rfl)) (fun _ _ _ h => h) (Or.inr ⟨by rfl, rfl⟩) ?_ ?_
        rotate_left
        ·simp only [Act.put, List.setIfInBounds_toArray, List.set_cons_zero, List.set_cons_succ, i64_w, i32_w]
         rfl
        refine pure_ (i := 12) (N := some 68) (v := undef) (a' := ?_) #[true, true, true, true, true, true, true, true, true, true, true, true, true, false, false, false, false, false, false, false, false, false, false, false] rfl rfl (any_of HT_.out (by kernel_rfl)) (fun _ _ _ h => h) (Or.inr ⟨by rfl, rfl⟩) ?_ ?_
        rotate_left
        ·simp only [Act.put, List.setIfInBounds_toArray, List.set_cons_zero, List.set_cons_succ, i64_w, i32_w]
         rfl
        refine pure_ (i := 13) (N := some 69) (v := ?_) (a' := ?_) #[true, true, true, true, true, true, true, true, true, true, true, true, true, true, false, false, false, false, false, false, false, false, false, false] rfl rfl (any_of HT_.out (by kernel_rfl)) (fun _ _ _ h => h) (Or.inl ⟨by rfl, ?_⟩) ?_ ?_
        rotate_left
        ·intro w'
         go_simp
         with_reducible rfl
        rotate_left
        ·simp only [Act.put, List.setIfInBounds_toArray, List.set_cons_zero, List.set_cons_succ, i64_w, i32_w]
         rfl
        refine pure_ (i := 14) (N := some 70) (v := ?_) (a' := ?_) #[true, true, true, true, true, true, true, true, true, true, true, true, true, true, true, false, false, false, false, false, false, false, false, false] rfl rfl (any_of HT_.out (by kernel_rfl)) (fun _ _ _ h => h) (Or.inl ⟨by rfl, ?_⟩) ?_ ?_
        rotate_left
        ·intro w'
         go_simp
         with_reducible rfl
        rotate_left
        ·simp only [Act.put, List.setIfInBounds_toArray, List.set_cons_zero, List.set_cons_succ, i64_w, i32_w]
         rfl
        refine pure_ (i := 15) (N := some 71) (v := undef) (a' := ?_) #[true, true, true, true, true, true, true, true, true, true, true, true, true, true, true, true, false, false, false, false, false, false, false, false] rfl rfl (any_of HT_.out (by kernel_rfl)) (fun _ _ _ h => h) (Or.inr ⟨by rfl, rfl⟩) ?_ ?_
        rotate_left
        ·simp only [Act.put, List.setIfInBounds_toArray, List.set_cons_zero, List.set_cons_succ, i64_w, i32_w]
         rfl
        refine pure_ (i := 16) (N := some 72) (v := undef) (a' := ?_) #[true, true, true, true, true, true, true, true, true, true, true, true, true, true, true, true, true, false, false, false, false, false, false, false] rfl rfl (any_of HT_.out (by kernel_rfl)) (fun _ _ _ h => h) (Or.inr ⟨by rfl, rfl⟩) ?_ ?_
        rotate_left
        ·simp only [Act.put, List.setIfInBounds_toArray, List.set_cons_zero, List.set_cons_succ, i64_w, i32_w]
         rfl
        refine pure_ (i := 17) (N := some 73) (v := undef) (a' := ?_) #[true, true, true, true, true, true, true, true, true, true, true, true, true, true, true, true, true, true, false, false, false, false, false, false] rfl rfl (any_of HT_.out (by kernel_rfl)) (fun _ _ _ h => h) (Or.inr ⟨by rfl, rfl⟩) ?_ ?_
        rotate_left
        ·simp only [Act.put, List.setIfInBounds_toArray, List.set_cons_zero, List.set_cons_succ, i64_w, i32_w]
         rfl
        refine pure_ (i := 18) (N := some 74) (v := undef) (a' := ?_) #[true, true, true, true, true, true, true, true, true, true, true, true, true, true, true, true, true, true, true, false, false, false, false, false] rfl rfl (any_of HT_.out (by kernel_rfl)) (fun _ _ _ h => h) (Or.inr ⟨by rfl, rfl⟩) ?_ ?_
        rotate_left
        ·simp only [Act.put, List.setIfInBounds_toArray, List.set_cons_zero, List.set_cons_succ, i64_w, i32_w]
         rfl
        refine pure_ (i := 19) (N := some 75) (v := undef) (a' := ?_) #[true, true, true, true, true, true, true, true, true, true, true, true, true, true, true, true, true, true, true, true, false, false, false, false] rfl rfl (any_of HT_.out (by kernel_rfl)) (fun _ _ _ h => h) (Or.inr ⟨by rfl, rfl⟩) ?_ ?_
        rotate_left
        ·simp only [Act.put, List.setIfInBounds_toArray, List.set_cons_zero, List.set_cons_succ, i64_w, i32_w]
         rfl
        refine pure_ (i := 20) (N := some 76) (v := undef) (a' := ?_) #[true, true, true, true, true, true, true, true, true, true, true, true, true, true, true, true, true, true, true, true, true, false, false, false] rfl rfl (any_of HT_.out (by kernel_rfl)) (fun _ _ _ h => h) (Or.inr ⟨by rfl, rfl⟩) ?_ ?_
        rotate_left
        ·simp only [Act.put, List.setIfInBounds_toArray, List.set_cons_zero, List.set_cons_succ, i64_w, i32_w]
         rfl
        refine pure_ (i := 21) (N := some 77) (v := undef) (a' := ?_) #[true, true, true, true, true, true, true, true, true, true, true, true, true, true, true, true, true, true, true, true, true, true, false, false] rfl rfl (any_of HT_.out (by kernel_rfl)) (fun _ _ _ h => h) (Or.inr ⟨by rfl, rfl⟩) ?_ ?_
        rotate_left
        ·simp only [Act.put, List.setIfInBounds_toArray, List.set_cons_zero, List.set_cons_succ, i64_w, i32_w]
         rfl
        refine pure_ (i := 22) (N := some 78) (v := undef) (a' := ?_) #[true, true, true, true, true, true, true, true, true, true, true, true, true, true, true, true, true, true, true, true, true, true, true, false] rfl rfl (any_of HT_.out (by kernel_rfl)) (fun _ _ _ h => h) (Or.inr ⟨by rfl, rfl⟩) ?_ ?_
        rotate_left
        ·simp only [Act.put, List.setIfInBounds_toArray, List.set_cons_zero, List.set_cons_succ, i64_w, i32_w]
         rfl
        refine pure_ (i := 23) (N := some 79) (v := ?_) (a' := ?_) #[true, true, true, true, true, true, true, true, true, true, true, true, true, true, true, true, true, true, true, true, true, true, true, true] rfl rfl (any_of HT_.out (by kernel_rfl)) (fun _ _ _ h => h) (Or.inl ⟨by rfl, ?_⟩) ?_ ?_
        rotate_left
        ·intro w'
         go_simp
         with_reducible rfl
        rotate_left
        ·simp only [Act.put, List.setIfInBounds_toArray, List.set_cons_zero, List.set_cons_succ, i64_w, i32_w]
         rfl
        refine done_ (done_of HT_.out (by kernel_rfl)) ?_
        try go_wp2
        go_meet
        case rel => exact ⟨_, (true), (by first | rfl | (simp; done) | (simp [*]; done)), H', ⟨by have := HJ9.out; first | omega | exact Nat.le_refl _⟩, ⟨by (with_reducible repeat (first | apply Kd.R_alloc | apply Kd.R_drewN | apply Kd.R_drew)); exact Kd.R_mono HO346.out (fun _ hk => hk.2.2)⟩, ⟨by (with_reducible repeat (first | apply Kd.R_alloc | apply Kd.R_drewN | apply Kd.R_drew)); exact Kd.R_mono HO352.out (fun _ hk => hk.2.2)⟩, ⟨bw_ BK327.out⟩, ⟨bw_ BK335.out⟩, ⟨bw_ BK342.out⟩, ⟨hb_ HB⟩⟩
      ·replace c62 := Bool.eq_false_iff.mpr c62
       subst c62
       have H1 : (calamuslaw11_TreeSteps.j1 kj9 a1 true l0_0 a0_1) = some r := by rw [if_neg (show ¬ (false = true) by decide)] at H; exact H
       clear H
       have H := H1
       clear H1
       have H' := Aside0.mk H
       clear H
       try go_wp2
       have n0_ : Aside0 (Kd.R k69 69 ((w58.setCell ⟨gb342, 0, none⟩ (.slice Ao59 t350.length co59)).setCell ⟨gb342, 1, none⟩ (.int .i64 t353)) w.heap.size (fun k_ => some k_ ≠ (.slice Ao21 t336.length co21 : Value).ownBlock ∧ some k_ ≠ (.slice Ao54 t344.length co54 : Value).ownBlock ∧ some k_ ≠ (.slice Ao59 t350.length co59 : Value).ownBlock) (.slice Ao15 t329.length co15) t329) := ⟨by (with_reducible repeat (first | apply Kd.R_alloc | apply Kd.R_drewN | apply Kd.R_drew)); exact Kd.R_mono (Kd.R_far (p := ⟨gb342, 1, none⟩) (Kd.R_far (p := ⟨gb342, 0, none⟩) (Kd.R_types HO_336000.out BK342.out (by decide)) (fun _ hk => hk.2) (.slice Ao59 t350.length co59)) (fun _ hk => hk.2) (.int .i64 t353)) (fun _ hk => ⟨hk.1.1.1, ⟨hk.1.1.2, hk.1.2⟩⟩)⟩
       have n1_ : Aside0 (Kd.R k69 69 ((w58.setCell ⟨gb342, 0, none⟩ (.slice Ao59 t350.length co59)).setCell ⟨gb342, 1, none⟩ (.int .i64 t353)) w.heap.size (fun k_ => some k_ ≠ (.slice Ao15 t329.length co15 : Value).ownBlock ∧ some k_ ≠ (.slice Ao54 t344.length co54 : Value).ownBlock ∧ some k_ ≠ (.slice Ao59 t350.length co59 : Value).ownBlock) (.slice Ao21 t336.length co21) t336) := ⟨by (with_reducible repeat (first | apply Kd.R_alloc | apply Kd.R_drewN | apply Kd.R_drew)); exact Kd.R_mono (Kd.R_far (p := ⟨gb342, 1, none⟩) (Kd.R_far (p := ⟨gb342, 0, none⟩) (Kd.R_types HO_343000.out BK342.out (by decide)) (fun _ hk => hk.2) (.slice Ao59 t350.length co59)) (fun _ hk => hk.2) (.int .i64 t353)) (fun _ hk => ⟨hk.1.1.1, ⟨hk.1.1.2, hk.1.2⟩⟩)⟩
       have n2_ : Aside0 (Kd.R k69 69 ((w58.setCell ⟨gb342, 0, none⟩ (.slice Ao59 t350.length co59)).setCell ⟨gb342, 1, none⟩ (.int .i64 t353)) w.heap.size (fun k_ => some k_ ≠ (.slice Ao15 t329.length co15 : Value).ownBlock ∧ some k_ ≠ (.slice Ao21 t336.length co21 : Value).ownBlock ∧ some k_ ≠ (.slice Ao59 t350.length co59 : Value).ownBlock) (.slice Ao54 t344.length co54) t344) := ⟨by (with_reducible repeat (first | apply Kd.R_alloc | apply Kd.R_drewN | apply Kd.R_drew)); exact Kd.R_mono (Kd.R_far (p := ⟨gb342, 1, none⟩) (Kd.R_far (p := ⟨gb342, 0, none⟩) (Kd.R_types HO346.out BK342.out (by decide)) (fun _ hk => hk.2) (.slice Ao59 t350.length co59)) (fun _ hk => hk.2) (.int .i64 t353)) (fun _ hk => ⟨hk.1.1.1.2, ⟨hk.1.1.2, hk.1.2⟩⟩)⟩
       have n3_ : Aside0 (Kd.R k69 69 ((w58.setCell ⟨gb342, 0, none⟩ (.slice Ao59 t350.length co59)).setCell ⟨gb342, 1, none⟩ (.int .i64 t353)) w.heap.size (fun k_ => some k_ ≠ (.slice Ao15 t329.length co15 : Value).ownBlock ∧ some k_ ≠ (.slice Ao21 t336.length co21 : Value).ownBlock ∧ some k_ ≠ (.slice Ao54 t344.length co54 : Value).ownBlock) (.slice Ao59 t350.length co59) t350) := ⟨by (with_reducible repeat (first | apply Kd.R_alloc | apply Kd.R_drewN | apply Kd.R_drew)); exact Kd.R_mono (Kd.R_far (p := ⟨gb342, 1, none⟩) (Kd.R_far (p := ⟨gb342, 0, none⟩) (Kd.R_types HO352.out BK342.out (by decide)) (fun _ hk => hk.2) (.slice Ao59 t350.length co59)) (fun _ hk => hk.2) (.int .i64 t353)) (fun _ hk => ⟨hk.1.1.1.2, ⟨hk.1.1.2, hk.1.2⟩⟩)⟩
       have n4_ : Aside0 (((w58.setCell ⟨gb342, 0, none⟩ (.slice Ao59 t350.length co59)).setCell ⟨gb342, 1, none⟩ (.int .i64 t353)).heap[gb327]? = some (.cells #[.slice A0_0 l0_0.length c0_0, .int .i64 a0_1] 46 (0, 0))) := ⟨bp_ BK327.out⟩
       have n5_ : Aside0 (((w58.setCell ⟨gb342, 0, none⟩ (.slice Ao59 t350.length co59)).setCell ⟨gb342, 1, none⟩ (.int .i64 t353)).heap[gb335]? = some (.cells #[.slice Ao54 t344.length co54, .int .i64 t347] 46 (0, 0))) := ⟨bp_ BK335.out⟩
       have n6_ : Aside0 (((w58.setCell ⟨gb342, 0, none⟩ (.slice Ao59 t350.length co59)).setCell ⟨gb342, 1, none⟩ (.int .i64 t353)).heap[gb342]? = some (.cells #[.slice Ao59 t350.length co59, .int .i64 t353] 46 (0, 0))) := ⟨bp_ BK342.out⟩
       have n7_ : Aside0 (Below w.heap.size w ((w58.setCell ⟨gb342, 0, none⟩ (.slice Ao59 t350.length co59)).setCell ⟨gb342, 1, none⟩ (.int .i64 t353))) := ⟨hb_ HB⟩
       (try clear HO_336000)
       (try clear HO_343000)
       (try clear HO346)
       (try clear HO352)
       (try clear BK327)
       (try clear BK335)
       (try clear BK342)
       (try clear HB)
       generalize ((w58.setCell ⟨gb342, 0, none⟩ (.slice Ao59 t350.length co59)).setCell ⟨gb342, 1, none⟩ (.int .i64 t353)) = w81 at n0_ n1_ n2_ n3_ n4_ n5_ n6_ n7_ ⊢
       have HO_336000 := n0_
       have HO_343000 := n1_
       have HO346 := n2_
       have HO352 := n3_
       have BK327 := n4_
       have BK335 := n5_
       have BK342 := n6_
       have HB := n7_
       clear n0_ n1_ n2_ n3_ n4_ n5_ n6_ n7_
       have n0_ := Aside0.mk (Kd.R_drew HO_336000.out)
       have n1_ := Aside0.mk (Kd.R_drew HO_343000.out)
       have n2_ := Aside0.mk (Kd.R_drew HO346.out)
       have n3_ := Aside0.mk (Kd.R_drew HO352.out)
       have n4_ := Aside0.mk (blk_drew BK327.out)
       have n5_ := Aside0.mk (blk_drew BK335.out)
       have n6_ := Aside0.mk (blk_drew BK342.out)
       have n7_ := Aside0.mk (below_drew1 HB.out)
       clear HO_336000
       clear HO_343000
       clear HO346
       clear HO352
       clear BK327
       clear BK335
       clear BK342
       clear HB
       have HO_336000 := n0_
       have HO_343000 := n1_
       have HO346 := n2_
       have HO352 := n3_
       have BK327 := n4_
       have BK335 := n5_
       have BK342 := n6_
       have HB := n7_
       clear n0_ n1_ n2_ n3_ n4_ n5_ n6_ n7_
       refine start_ (n := 24) (S := fun w' => w'.cell? ⟨gb335, 0, none⟩ = some (.slice Ao54 t344.length co54) ∧ w'.cell? ⟨gb335, 1, none⟩ = some (.int .i64 t347) ∧ w'.cell? ⟨gb342, 0, none⟩ = some (.slice Ao59 t350.length co59) ∧ w'.cell? ⟨gb342, 1, none⟩ = some (.int .i64 t353)) (ds := []) #[false, false, false, false, false, false, false, false, false, false, false, false, false, false, false, false, false, false, false, false, false, false, false, false] (by kernel_rfl) rfl rfl ⟨(blk_cell BK335.out 0).trans rfl, (blk_cell BK335.out 1).trans rfl, (blk_cell BK342.out 0).trans rfl, (blk_cell BK342.out 1).trans rfl⟩ (fun hHeld => ?_); refine with_tabW calamuslaw11_TreeSteps.tab9 calamuslaw11_TreeSteps.bits9 (fun HT_ HW_ => ?_)
       generalize w81.drew = w82 at HO_336000 HO_343000 HO346 HO352 BK327 BK335 BK342 HB hHeld ⊢
       refine take_ (i := 0) (N := some 56) (v := ?_) (a' := ?_) #[true, false, false, false, false, false, false, false, false, false, false, false, false, false, false, false, false, false, false, false, false, false, false, false] rfl rfl (take_ofW HT_.out HW_.out (by kernel_rfl)) (fun _ _ _ h => h) (Or.inl ⟨by rfl, ?_⟩) hHeld ?_ ?_
       rotate_left
       ·rintro w' ⟨s0, s1, s2, s3⟩
        go_simp
        with_reducible rfl
       rotate_left
       ·simp only [Act.put, List.setIfInBounds_toArray, List.set_cons_zero, List.set_cons_succ, i64_w, i32_w]
        rfl
       refine take_ (i := 1) (N := some 57) (v := ?_) (a' := ?_) #[true, true, false, false, false, false, false, false, false, false, false, false, false, false, false, false, false, false, false, false, false, false, false, false] rfl rfl (take_ofW HT_.out HW_.out (by kernel_rfl)) (fun _ _ _ h => h) (Or.inl ⟨by rfl, ?_⟩) hHeld ?_ ?_
       rotate_left
       ·rintro w' ⟨s0, s1, s2, s3⟩
        go_simp
        with_reducible rfl
       rotate_left
       ·simp only [Act.put, List.setIfInBounds_toArray, List.set_cons_zero, List.set_cons_succ, i64_w, i32_w]
        rfl
       refine one_ (i := 2) (N := some 58) #[true, true, true, false, false, false, false, false, false, false, false, false, false, false, false, false, false, false, false, false, false, false, false, false] rfl rfl (one_of HT_.out (by kernel_rfl)) (by decide) (fun K hK => ?_)
       refine goes_ Try.func38 (by kernel_rfl) rfl #[.agg #[.slice Ao54 t344.length co54, .int .i64 t347], .agg #[.slice Ao59 t350.length co59, .int .i64 t353]] (by rfl) rfl rfl (by (try simp only [List.map_toArray, List.map_cons, List.map_nil]); first | done | rfl | (simp only [List.length_drop, List.length_take]; rfl)) ?_
       with_reducible refine (calamusref11_Same.calls kj9 _ _ t344 t347 _ _ t350 t353 false _ ?side1 ?side2 ?side3 ?side4 A61.out).mono ?_
       (case side1 => repeat (first | exact (Kd.R_reads' HO346.out).2.2 | (with_reducible refine Kd.C_alloc ?_ _) | (with_reducible refine Kd.C_drewN ?_ _) | (with_reducible refine Kd.C_drew ?_)))
       (case side2 => exact (Kd.R_reads' HO346.out).2.1)
       (case side3 => repeat (first | exact (Kd.R_reads' HO352.out).2.2 | (with_reducible refine Kd.C_alloc ?_ _) | (with_reducible refine Kd.C_drewN ?_ _) | (with_reducible refine Kd.C_drew ?_)))
       (case side4 => exact (Kd.R_reads' HO352.out).2.1)
       rintro e w83 ⟨rfl, hb⟩
       refine ⟨_, rfl, ?_⟩
       have n0_ := Aside0.mk (Kd.R_below (rw_ HO_336000.out) hb)
       have n1_ := Aside0.mk (Kd.R_below (rw_ HO_343000.out) hb)
       have n2_ := Aside0.mk (Kd.R_below (rw_ HO346.out) hb)
       have n3_ := Aside0.mk (Kd.R_below (rw_ HO352.out) hb)
       have n4_ := bb_ BK327 hb
       have n5_ := bb_ BK335 hb
       have n6_ := bb_ BK342 hb
       have n7_ := bs_ HB hb
       clear HO_336000
       clear HO_343000
       clear HO346
       clear HO352
       clear BK327
       clear BK335
       clear BK342
       clear HB
       have HO_336000 := n0_
       have HO_343000 := n1_
       have HO346 := n2_
       have HO352 := n3_
       have BK327 := n4_
       have BK335 := n5_
       have BK342 := n6_
       have HB := n7_
       clear n0_ n1_ n2_ n3_ n4_ n5_ n6_ n7_
       (try clear hb)
       (try clear hb2)
       (try clear hk)
       (try clear hi)
       refine hK.out _ _ ⟨(blk_cell BK335.out 0).trans rfl, (blk_cell BK335.out 1).trans rfl, (blk_cell BK342.out 0).trans rfl, (blk_cell BK342.out 1).trans rfl⟩ (fun hHeld => ?_)
       clear hK K
       refine norm_ (a' := ?_) ?_ ?_
       rotate_left
       ·show Act.put _ (some 58) _ = _
        simp only [Act.put, List.setIfInBounds_toArray, List.set_cons_zero, List.set_cons_succ, i64_w, i32_w]
        rfl
       refine pure_ (i := 3) (N := some 59) (v := ?_) (a' := ?_) #[true, true, true, true, false, false, false, false, false, false, false, false, false, false, false, false, false, false, false, false, false, false, false, false] rfl rfl (any_of HT_.out (by kernel_rfl)) (fun _ _ _ h => h) (Or.inl ⟨by rfl, ?_⟩) ?_ ?_
       rotate_left
       ·intro w'
        go_simp
        with_reducible rfl
       rotate_left
       ·simp only [Act.put, List.setIfInBounds_toArray, List.set_cons_zero, List.set_cons_succ, i64_w, i32_w]
        rfl
       refine pure_ (i := 4) (N := some 60) (v := ?_) (a' := ?_) #[true, true, true, true, true, false, false, false, false, false, false, false, false, false, false, false, false, false, false, false, false, false, false, false] rfl rfl (any_of HT_.out (by kernel_rfl)) (fun _ _ _ h => h) (Or.inl ⟨by rfl, ?_⟩) ?_ ?_
       rotate_left
       ·intro w'
        go_simp
        with_reducible rfl
       rotate_left
       ·simp only [Act.put, List.setIfInBounds_toArray, List.set_cons_zero, List.set_cons_succ, i64_w, i32_w]
        rfl
       refine pure_ (i := 5) (N := some 61) (v := undef) (a' := ?_) #[true, true, true, true, true, true, false, false, false, false, false, false, false, false, false, false, false, false, false, false, false, false, false, false] rfl rfl (any_of HT_.out (by kernel_rfl)) (fun _ _ _ h => h) (Or.inr ⟨by rfl, rfl⟩) ?_ ?_
       rotate_left
       ·simp only [Act.put, List.setIfInBounds_toArray, List.set_cons_zero, List.set_cons_succ, i64_w, i32_w]
        rfl
       refine pure_ (i := 6) (N := some 62) (v := undef) (a' := ?_) #[true, true, true, true, true, true, true, false, false, false, false, false, false, false, false, false, false, false, false, false, false, false, false, false] rfl rfl (any_of HT_.out (by kernel_rfl)) (fun _ _ _ h => h) (Or.inr ⟨by rfl, rfl⟩) ?_ ?_
       rotate_left
       ·simp only [Act.put, List.setIfInBounds_toArray, List.set_cons_zero, List.set_cons_succ, i64_w, i32_w]
        rfl
       refine pure_ (i := 7) (N := some 63) (v := undef) (a' := ?_) #[true, true, true, true, true, true, true, true, false, false, false, false, false, false, false, false, false, false, false, false, false, false, false, false] rfl rfl (any_of HT_.out (by kernel_rfl)) (fun _ _ _ h => h) (Or.inr ⟨by rfl, rfl⟩) ?_ ?_
       rotate_left
       ·simp only [Act.put, List.setIfInBounds_toArray, List.set_cons_zero, List.set_cons_succ, i64_w, i32_w]
        rfl
       refine pure_ (i := 8) (N := some 64) (v := ?_) (a' := ?_) #[true, true, true, true, true, true, true, true, true, false, false, false, false, false, false, false, false, false, false, false, false, false, false, false] rfl rfl (any_of HT_.out (by kernel_rfl)) (fun _ _ _ h => h) (Or.inl ⟨by rfl, ?_⟩) ?_ ?_
       rotate_left
       ·intro w'
        go_simp
        with_reducible rfl
       rotate_left
       ·simp only [Act.put, List.setIfInBounds_toArray, List.set_cons_zero, List.set_cons_succ, i64_w, i32_w]
        rfl
       refine pure_ (i := 9) (N := some 65) (v := ?_) (a' := ?_) #[true, true, true, true, true, true, true, true, true, true, false, false, false, false, false, false, false, false, false, false, false, false, false, false] rfl rfl (any_of HT_.out (by kernel_rfl)) (fun _ _ _ h => h) (Or.inl ⟨by rfl, ?_⟩) ?_ ?_
       rotate_left
       ·intro w'
        go_simp
        with_reducible rfl
       rotate_left
       ·simp only [Act.put, List.setIfInBounds_toArray, List.set_cons_zero, List.set_cons_succ, i64_w, i32_w]
        rfl
       refine pure_ (i := 10) (N := some 66) (v := undef) (a' := ?_) #[true, true, true, true, true, true, true, true, true, true, true, false, false, false, false, false, false, false, false, false, false, false, false, false] rfl rfl (any_of HT_.out (by kernel_rfl)) (fun _ _ _ h => h) (Or.inr ⟨by rfl, rfl⟩) ?_ ?_
       rotate_left
       ·simp only [Act.put, List.setIfInBounds_toArray, List.set_cons_zero, List.set_cons_succ, i64_w, i32_w]
        rfl
       refine pure_ (i := 11) (N := some 67) (v := undef) (a' := ?_) #[true, true, true, true, true, true, true, true, true, true, true, true, false, false, false, false, false, false, false, false, false, false, false, false] rfl rfl (any_of HT_.out (by kernel_rfl)) (fun _ _ _ h => h) (Or.inr ⟨by rfl, rfl⟩) ?_ ?_
       rotate_left
       ·simp only [Act.put, List.setIfInBounds_toArray, List.set_cons_zero, List.set_cons_succ, i64_w, i32_w]
        rfl
       refine pure_ (i := 12) (N := some 68) (v := undef) (a' := ?_) #[true, true, true, true, true, true, true, true, true, true, true, true, true, false, false, false, false, false, false, false, false, false, false, false] rfl rfl (any_of HT_.out (by kernel_rfl)) (fun _ _ _ h => h) (Or.inr ⟨by rfl, rfl⟩) ?_ ?_
       rotate_left
       ·simp only [Act.put, List.setIfInBounds_toArray, List.set_cons_zero, List.set_cons_succ, i64_w, i32_w]
        rfl
       refine pure_ (i := 13) (N := some 69) (v := ?_) (a' := ?_) #[true, true, true, true, true, true, true, true, true, true, true, true, true, true, false, false, false, false, false, false, false, false, false, false] rfl rfl (any_of HT_.out (by kernel_rfl)) (fun _ _ _ h => h) (Or.inl ⟨by rfl, ?_⟩) ?_ ?_
       rotate_left
       ·intro w'
        go_simp
        with_reducible rfl
       rotate_left
       ·simp only [Act.put, List.setIfInBounds_toArray, List.set_cons_zero, List.set_cons_succ, i64_w, i32_w]
        rfl
       refine pure_ (i := 14) (N := some 70) (v := ?_) (a' := ?_) #[true, true, true, true, true, true, true, true, true, true, true, true, true, true, true, false, false, false, false, false, false, false, false, false] rfl rfl (any_of HT_.out (by kernel_rfl)) (fun _ _ _ h => h) (Or.inl ⟨by rfl, ?_⟩) ?_ ?_
       rotate_left
       ·intro w'
        go_simp
        with_reducible rfl
       rotate_left
       ·simp only [Act.put, List.setIfInBounds_toArray, List.set_cons_zero, List.set_cons_succ, i64_w, i32_w]
        rfl
       refine pure_ (i := 15) (N := some 71) (v := undef) (a' := ?_) #[true, true, true, true, true, true, true, true, true, true, true, true, true, true, true, true, false, false, false, false, false, false, false, false] rfl rfl (any_of HT_.out (by kernel_rfl)) (fun _ _ _ h => h) (Or.inr ⟨by rfl, rfl⟩) ?_ ?_
       rotate_left
       ·simp only [Act.put, List.setIfInBounds_toArray, List.set_cons_zero, List.set_cons_succ, i64_w, i32_w]
        rfl
       refine pure_ (i := 16) (N := some 72) (v := undef) (a' := ?_) #[true, true, true, true, true, true, true, true, true, true, true, true, true, true, true, true, true, false, false, false, false, false, false, false] rfl rfl (any_of HT_.out (by kernel_rfl)) (fun _ _ _ h => h) (Or.inr ⟨by rfl, rfl⟩) ?_ ?_
       rotate_left
       ·simp only [Act.put, List.setIfInBounds_toArray, List.set_cons_zero, List.set_cons_succ, i64_w, i32_w]
        rfl
       refine pure_ (i := 17) (N := some 73) (v := undef) (a' := ?_) #[true, true, true, true, true, true, true, true, true, true, true, true, true, true, true, true, true, true, false, false, false, false, false, false] rfl rfl (any_of HT_.out (by kernel_rfl)) (fun _ _ _ h => h) (Or.inr ⟨by rfl, rfl⟩) ?_ ?_
       rotate_left
       ·simp only [Act.put, List.setIfInBounds_toArray, List.set_cons_zero, List.set_cons_succ, i64_w, i32_w]
        rfl
       refine pure_ (i := 18) (N := some 74) (v := undef) (a' := ?_) #[true, true, true, true, true, true, true, true, true, true, true, true, true, true, true, true, true, true, true, false, false, false, false, false] rfl rfl (any_of HT_.out (by kernel_rfl)) (fun _ _ _ h => h) (Or.inr ⟨by rfl, rfl⟩) ?_ ?_
       rotate_left
       ·simp only [Act.put, List.setIfInBounds_toArray, List.set_cons_zero, List.set_cons_succ, i64_w, i32_w]
        rfl
       refine pure_ (i := 19) (N := some 75) (v := undef) (a' := ?_) #[true, true, true, true, true, true, true, true, true, true, true, true, true, true, true, true, true, true, true, true, false, false, false, false] rfl rfl (any_of HT_.out (by kernel_rfl)) (fun _ _ _ h => h) (Or.inr ⟨by rfl, rfl⟩) ?_ ?_
       rotate_left
       ·simp only [Act.put, List.setIfInBounds_toArray, List.set_cons_zero, List.set_cons_succ, i64_w, i32_w]
        rfl
       refine pure_ (i := 20) (N := some 76) (v := undef) (a' := ?_) #[true, true, true, true, true, true, true, true, true, true, true, true, true, true, true, true, true, true, true, true, true, false, false, false] rfl rfl (any_of HT_.out (by kernel_rfl)) (fun _ _ _ h => h) (Or.inr ⟨by rfl, rfl⟩) ?_ ?_
       rotate_left
       ·simp only [Act.put, List.setIfInBounds_toArray, List.set_cons_zero, List.set_cons_succ, i64_w, i32_w]
        rfl
       refine pure_ (i := 21) (N := some 77) (v := undef) (a' := ?_) #[true, true, true, true, true, true, true, true, true, true, true, true, true, true, true, true, true, true, true, true, true, true, false, false] rfl rfl (any_of HT_.out (by kernel_rfl)) (fun _ _ _ h => h) (Or.inr ⟨by rfl, rfl⟩) ?_ ?_
       rotate_left
       ·simp only [Act.put, List.setIfInBounds_toArray, List.set_cons_zero, List.set_cons_succ, i64_w, i32_w]
        rfl
       refine pure_ (i := 22) (N := some 78) (v := undef) (a' := ?_) #[true, true, true, true, true, true, true, true, true, true, true, true, true, true, true, true, true, true, true, true, true, true, true, false] rfl rfl (any_of HT_.out (by kernel_rfl)) (fun _ _ _ h => h) (Or.inr ⟨by rfl, rfl⟩) ?_ ?_
       rotate_left
       ·simp only [Act.put, List.setIfInBounds_toArray, List.set_cons_zero, List.set_cons_succ, i64_w, i32_w]
        rfl
       refine pure_ (i := 23) (N := some 79) (v := ?_) (a' := ?_) #[true, true, true, true, true, true, true, true, true, true, true, true, true, true, true, true, true, true, true, true, true, true, true, true] rfl rfl (any_of HT_.out (by kernel_rfl)) (fun _ _ _ h => h) (Or.inl ⟨by rfl, ?_⟩) ?_ ?_
       rotate_left
       ·intro w'
        go_simp
        with_reducible rfl
       rotate_left
       ·simp only [Act.put, List.setIfInBounds_toArray, List.set_cons_zero, List.set_cons_succ, i64_w, i32_w]
        rfl
       refine done_ (done_of HT_.out (by kernel_rfl)) ?_
       try go_wp2
       go_meet
       case rel => exact ⟨_, (true), (by first | rfl | (simp; done) | (simp [*]; done)), H', ⟨by have := HJ9.out; first | omega | exact Nat.le_refl _⟩, ⟨by (with_reducible repeat (first | apply Kd.R_alloc | apply Kd.R_drewN | apply Kd.R_drew)); exact Kd.R_mono HO346.out (fun _ hk => hk.2.2)⟩, ⟨by (with_reducible repeat (first | apply Kd.R_alloc | apply Kd.R_drewN | apply Kd.R_drew)); exact Kd.R_mono HO352.out (fun _ hk => hk.2.2)⟩, ⟨bw_ BK327.out⟩, ⟨bw_ BK335.out⟩, ⟨bw_ BK342.out⟩, ⟨hb_ HB⟩⟩
     case rest =>
      clear HC49
      try clear p2
      try clear c3
      try clear c4
      try clear c6
      try clear c38
      try clear c46
      try clear c48
      try clear c62
      try clear c63
      try clear c63b0
      try clear c63b1
      obtain ⟨kq, x79_48, rfl, HA, HJ48, HO_336000, HO_343000, BK327, BK335, BK342, HB⟩ := hcut
      cases kq with
      | zero => exact absurd HA.out (by simp [calamuslaw11_TreeSteps.j1])
      | succ kj48 =>
       have H := HA.out
       clear HA
       simp only [calamuslaw11_TreeSteps.j1] at H
       by_cases c84 : x79_48 = true
       ·subst c84
        have H1 : (some false) = some r := by rw [if_pos rfl] at H; exact H
        clear H
        have H := H1
        clear H1
        exact nf_ H hr_
       ·replace c84 := Bool.eq_false_iff.mpr c84
        subst c84
        have H1 : ((tree_Choose.f kj48 l0_0 a0_1 a1).bind fun bt364 => ((calamusref11_Choose.f kj48 l0_0 a0_1 a1).bind fun bt369 => ((calamusref11_Same.f kj48 bt364.1 bt364.2.1 bt369.1 bt369.2.1).bind fun t374 => (if t374 = true then (if bt364.2.2 = bt369.2.2 then ((calamuslaw11_lives.f kj48).bind fun t375 => (some t375)) else (some false)) else (some false))))) = some r := by rw [if_neg (show ¬ (false = true) by decide)] at H; exact H
        clear H
        have H := H1
        clear H1
        replace H := Option.bind_eq_some_iff.mp H
        obtain ⟨⟨t364, t367, t368⟩, A850, H⟩ := H
        replace H : ((calamusref11_Choose.f kj48 l0_0 a0_1 a1).bind fun bt369 => ((calamusref11_Same.f kj48 t364 t367 bt369.1 bt369.2.1).bind fun t374 => (if t374 = true then (if t368 = bt369.2.2 then ((calamuslaw11_lives.f kj48).bind fun t375 => (some t375)) else (some false)) else (some false)))) = some r := H
        have A85 := Aside0.mk A850
        clear A850
        replace H := Option.bind_eq_some_iff.mp H
        obtain ⟨⟨t369, t372, t373⟩, A860, H⟩ := H
        replace H : ((calamusref11_Same.f kj48 t364 t367 t369 t372).bind fun t374 => (if t374 = true then (if t368 = t373 then ((calamuslaw11_lives.f kj48).bind fun t375 => (some t375)) else (some false)) else (some false))) = some r := H
        have A86 := Aside0.mk A860
        clear A860
        replace H := Option.bind_eq_some_iff.mp H
        obtain ⟨t374, A870, H⟩ := H
        replace H : (if t374 = true then (if t368 = t373 then ((calamuslaw11_lives.f kj48).bind fun t375 => (some t375)) else (some false)) else (some false)) = some r := H
        have A87 := Aside0.mk A870
        clear A870
        by_cases c88 : t374 = true
        ·subst c88
         have H1 : (if t368 = t373 then ((calamuslaw11_lives.f kj48).bind fun t375 => (some t375)) else (some false)) = some r := by rw [if_pos rfl] at H; exact H
         clear H
         have H := H1
         clear H1
         by_cases c89 : t368 = t373
         ·rw [if_pos c89] at H
          have c89b0 : (t368 == t373) = true := beq_iff_eq.mpr c89
          have c89b1 : (t368 != t373) = false := bne_eq_false_iff_eq.mpr c89
          clear c89
          replace H := Option.bind_eq_some_iff.mp H
          obtain ⟨t375, A900, H⟩ := H
          replace H : (some t375) = some r := H
          have A90 := Aside0.mk A900
          clear A900
          obtain rfl := Option.some.inj H
          have hnb91 := NB327_335.out
          have hnc91 := NB335_327.out
          have hnb92 := NB327_342.out
          have hnc92 := NB342_327.out
          obtain ⟨hcz93_0, hcz93_1, hfz93_0, hfz93_1⟩ := bc2_ BK327
          go_wp2_with (first | ((with_reducible refine gate_callee (f := 49) rfl ?_); refine goesL_ (some 83) rfl rfl Try.func49 (by kernel_rfl) rfl #[.agg #[.slice A0_0 l0_0.length c0_0, .int .i64 a0_1], .int .i64 a1] rfl (by (try simp only [List.map_toArray, List.map_cons, List.map_nil]); first | done | rfl | (simp only [List.length_drop, List.length_take]; rfl)) ?_; (with_reducible refine (tree_Choose.calls kj48 _ _ l0_0 a0_1 a1 t364 t367 t368 _ ?side1 ?side2 A85.out).mono ?_); (case side1 => exact cw_ (Kd.C_below HR0_0.out HB.out)); (case side2 => exact HC0_0.out); rintro e w94 ⟨v365, rfl, ho0, hb⟩; refine ⟨_, rfl, ?_⟩; have n0_ := Aside0.mk (Kd.R_elder' (rw_ HO_336000.out) (Kd.R_base ho0) hb); have n1_ := Aside0.mk (Kd.R_elder' (rw_ HO_343000.out) (Kd.R_base ho0) hb); have n2_ := Aside0.mk (Kd.R_lower (Kd.R_new' (Kd.R_new' ho0 (Kd.R_lt (rw_ HO_336000.out))) (Kd.R_lt (rw_ HO_343000.out))) (below_size (hb_ HB))); have n3_ := bb_ BK327 hb; have n4_ := bb_ BK335 hb; have n5_ := bb_ BK342 hb; have n6_ := bs_ HB hb; clear HO_336000; clear HO_343000; clear BK327; clear BK335; clear BK342; clear HB; have HO_336000 := n0_; have HO_343000 := n1_; have HO366 := n2_; have BK327 := n3_; have BK335 := n4_; have BK342 := n5_; have HB := n6_; clear n0_ n1_ n2_ n3_ n4_ n5_ n6_; (try clear hb); (try clear hb2); (try clear hk); (try clear hi); (try clear ho0); obtain ⟨Ao95, co95, eo95⟩ := Kd.R_slice HO366.out; subst eo95; have hnb96 := NB335_342.out; have hnc96 := NB342_335.out; obtain ⟨hcz97_0, hcz97_1, hfz97_0, hfz97_1⟩ := bc2_ BK335; obtain ⟨hcz98_0, hcz98_1, hfz98_0, hfz98_1⟩ := bc2_ BK327) | ((with_reducible refine gate_callee (f := 50) rfl ?_); refine goesL_ (some 89) rfl rfl Try.func50 (by kernel_rfl) rfl #[.agg #[.slice A0_0 l0_0.length c0_0, .int .i64 a0_1], .int .i64 a1] rfl (by (try simp only [List.map_toArray, List.map_cons, List.map_nil]); first | done | rfl | (simp only [List.length_drop, List.length_take]; rfl)) ?_; (with_reducible refine (calamusref11_Choose.calls kj48 _ _ l0_0 a0_1 a1 t369 t372 t373 _ ?side1 ?side2 A86.out).mono ?_); (case side1 => exact Kd.C_below HR0_0.out (hb_ HB)); (case side2 => exact HC0_0.out); rintro e w99 ⟨v370, rfl, ho0, hb⟩; refine ⟨_, rfl, ?_⟩; have n0_ := Aside0.mk (Kd.R_elder' (by (with_reducible repeat (first | apply Kd.R_alloc | apply Kd.R_drewN | apply Kd.R_drew)); exact (Kd.R_mono (Kd.R_far (p := ⟨gb335, 1, none⟩) (Kd.R_far (p := ⟨gb335, 0, none⟩) (Kd.R_types HO_336000.out BK335.out (by decide)) (fun _ hk => hk.2) (.slice Ao95 t364.length co95)) (fun _ hk => hk.2) (.int .i64 t367)) (fun _ h_ => h_.1))) (Kd.R_base ho0) hb); have n1_ := Aside0.mk (Kd.R_elder' (by (with_reducible repeat (first | apply Kd.R_alloc | apply Kd.R_drewN | apply Kd.R_drew)); exact (Kd.R_mono (Kd.R_far (p := ⟨gb335, 1, none⟩) (Kd.R_far (p := ⟨gb335, 0, none⟩) (Kd.R_types HO_343000.out BK335.out (by decide)) (fun _ hk => hk.2) (.slice Ao95 t364.length co95)) (fun _ hk => hk.2) (.int .i64 t367)) (fun _ h_ => h_.1))) (Kd.R_base ho0) hb); have n2_ := Aside0.mk (Kd.R_elder' (by (with_reducible repeat (first | apply Kd.R_alloc | apply Kd.R_drewN | apply Kd.R_drew)); exact (Kd.R_mono (Kd.R_far (p := ⟨gb335, 1, none⟩) (Kd.R_far (p := ⟨gb335, 0, none⟩) (Kd.R_types HO366.out BK335.out (by decide)) (fun _ hk => hk.2) (.slice Ao95 t364.length co95)) (fun _ hk => hk.2) (.int .i64 t367)) (fun _ h_ => h_.1))) (Kd.R_base ho0) hb); have n3_ := Aside0.mk (Kd.R_lower (Kd.R_new' (Kd.R_new' (Kd.R_new' ho0 (Kd.R_lt (by (with_reducible repeat (first | apply Kd.R_alloc | apply Kd.R_drewN | apply Kd.R_drew)); exact (Kd.R_mono (Kd.R_far (p := ⟨gb335, 1, none⟩) (Kd.R_far (p := ⟨gb335, 0, none⟩) (Kd.R_types HO_336000.out BK335.out (by decide)) (fun _ hk => hk.2) (.slice Ao95 t364.length co95)) (fun _ hk => hk.2) (.int .i64 t367)) (fun _ h_ => h_.1))))) (Kd.R_lt (by (with_reducible repeat (first | apply Kd.R_alloc | apply Kd.R_drewN | apply Kd.R_drew)); exact (Kd.R_mono (Kd.R_far (p := ⟨gb335, 1, none⟩) (Kd.R_far (p := ⟨gb335, 0, none⟩) (Kd.R_types HO_343000.out BK335.out (by decide)) (fun _ hk => hk.2) (.slice Ao95 t364.length co95)) (fun _ hk => hk.2) (.int .i64 t367)) (fun _ h_ => h_.1))))) (Kd.R_lt (by (with_reducible repeat (first | apply Kd.R_alloc | apply Kd.R_drewN | apply Kd.R_drew)); exact (Kd.R_mono (Kd.R_far (p := ⟨gb335, 1, none⟩) (Kd.R_far (p := ⟨gb335, 0, none⟩) (Kd.R_types HO366.out BK335.out (by decide)) (fun _ hk => hk.2) (.slice Ao95 t364.length co95)) (fun _ hk => hk.2) (.int .i64 t367)) (fun _ h_ => h_.1))))) (below_size (hb_ HB))); have n4_ := Aside0.mk (blk_below (g := gb327) (o := .cells #[.slice A0_0 l0_0.length c0_0, .int .i64 a0_1] 46 (0, 0)) (bp_ BK327.out) hb); have n5_ := Aside0.mk (blk_below (g := gb335) (o := .cells #[.slice Ao95 t364.length co95, .int .i64 t367] 46 (0, 0)) (bp_ BK335.out) hb); have n6_ := Aside0.mk (blk_below (g := gb342) (o := .cells #[.slice Ao59 t350.length co59, .int .i64 t353] 46 (0, 0)) (bp_ BK342.out) hb); have n7_ := bs_ HB hb; clear HO_336000; clear HO_343000; clear HO366; clear BK327; clear BK335; clear BK342; clear HB; have HO_336000 := n0_; have HO_343000 := n1_; have HO366 := n2_; have HO371 := n3_; have BK327 := n4_; have BK335 := n5_; have BK342 := n6_; have HB := n7_; clear n0_ n1_ n2_ n3_ n4_ n5_ n6_ n7_; (try clear hb); (try clear hb2); (try clear hk); (try clear hi); (try clear ho0); obtain ⟨Ao100, co100, eo100⟩ := Kd.R_slice HO371.out; subst eo100; obtain ⟨hcz101_0, hcz101_1, hfz101_0, hfz101_1⟩ := bc2_ BK342; obtain ⟨hcz102_0, hcz102_1, hfz102_0, hfz102_1⟩ := bc2_ BK335) | ((with_reducible refine gate_callee (f := 38) rfl ?_); refine goesL_ (some 94) rfl rfl Try.func38 (by kernel_rfl) rfl #[.agg #[.slice Ao95 t364.length co95, .int .i64 t367], .agg #[.slice Ao100 t369.length co100, .int .i64 t372]] rfl (by (try simp only [List.map_toArray, List.map_cons, List.map_nil]); first | done | rfl | (simp only [List.length_drop, List.length_take]; rfl)) ?_; (with_reducible refine (calamusref11_Same.calls kj48 _ _ t364 t367 _ _ t369 t372 true _ ?side1 ?side2 ?side3 ?side4 A87.out).mono ?_); (case side1 => refine (Kd.R_reads' (e := 69) (base := w.heap.size) (ok := fun k_ => (((True ∧ some k_ ≠ (.slice Ao54 t344.length co54 : Value).ownBlock) ∧ some k_ ≠ (.slice Ao59 t350.length co59 : Value).ownBlock) ∧ some k_ ≠ (.slice Ao100 t369.length co100 : Value).ownBlock)) (n := t364.length) (c := co95) ?_).2.2; exact (by (with_reducible repeat (first | apply Kd.R_alloc | apply Kd.R_drewN | apply Kd.R_drew)); exact (Kd.R_mono (Kd.R_far (p := ⟨gb342, 1, none⟩) (Kd.R_far (p := ⟨gb342, 0, none⟩) (Kd.R_types HO366.out BK342.out (by decide)) (fun _ hk => hk.2) (.slice Ao100 t369.length co100)) (fun _ hk => hk.2) (.int .i64 t372)) (fun _ h_ => h_.1)))); (case side2 => exact (Kd.R_reads' HO366.out).2.1); (case side3 => refine (Kd.R_reads' (e := 69) (base := w.heap.size) (ok := fun k_ => (((True ∧ some k_ ≠ (.slice Ao54 t344.length co54 : Value).ownBlock) ∧ some k_ ≠ (.slice Ao59 t350.length co59 : Value).ownBlock) ∧ some k_ ≠ (.slice Ao95 t364.length co95 : Value).ownBlock)) (n := t369.length) (c := co100) ?_).2.2; exact (by (with_reducible repeat (first | apply Kd.R_alloc | apply Kd.R_drewN | apply Kd.R_drew)); exact (Kd.R_mono (Kd.R_far (p := ⟨gb342, 1, none⟩) (Kd.R_far (p := ⟨gb342, 0, none⟩) (Kd.R_types HO371.out BK342.out (by decide)) (fun _ hk => hk.2) (.slice Ao100 t369.length co100)) (fun _ hk => hk.2) (.int .i64 t372)) (fun _ h_ => h_.1)))); (case side4 => exact (Kd.R_reads' HO371.out).2.1); rintro e w103 ⟨rfl, hb⟩; refine ⟨_, rfl, ?_⟩; have n0_ := Aside0.mk (Kd.R_below (by (with_reducible repeat (first | apply Kd.R_alloc | apply Kd.R_drewN | apply Kd.R_drew)); exact (Kd.R_mono (Kd.R_far (p := ⟨gb342, 1, none⟩) (Kd.R_far (p := ⟨gb342, 0, none⟩) (Kd.R_types HO_336000.out BK342.out (by decide)) (fun _ hk => hk.2) (.slice Ao100 t369.length co100)) (fun _ hk => hk.2) (.int .i64 t372)) (fun _ h_ => h_.1))) hb); have n1_ := Aside0.mk (Kd.R_below (by (with_reducible repeat (first | apply Kd.R_alloc | apply Kd.R_drewN | apply Kd.R_drew)); exact (Kd.R_mono (Kd.R_far (p := ⟨gb342, 1, none⟩) (Kd.R_far (p := ⟨gb342, 0, none⟩) (Kd.R_types HO_343000.out BK342.out (by decide)) (fun _ hk => hk.2) (.slice Ao100 t369.length co100)) (fun _ hk => hk.2) (.int .i64 t372)) (fun _ h_ => h_.1))) hb); have n2_ := Aside0.mk (Kd.R_below (by (with_reducible repeat (first | apply Kd.R_alloc | apply Kd.R_drewN | apply Kd.R_drew)); exact (Kd.R_mono (Kd.R_far (p := ⟨gb342, 1, none⟩) (Kd.R_far (p := ⟨gb342, 0, none⟩) (Kd.R_types HO366.out BK342.out (by decide)) (fun _ hk => hk.2) (.slice Ao100 t369.length co100)) (fun _ hk => hk.2) (.int .i64 t372)) (fun _ h_ => h_.1))) hb); have n3_ := Aside0.mk (Kd.R_below (by (with_reducible repeat (first | apply Kd.R_alloc | apply Kd.R_drewN | apply Kd.R_drew)); exact (Kd.R_mono (Kd.R_far (p := ⟨gb342, 1, none⟩) (Kd.R_far (p := ⟨gb342, 0, none⟩) (Kd.R_types HO371.out BK342.out (by decide)) (fun _ hk => hk.2) (.slice Ao100 t369.length co100)) (fun _ hk => hk.2) (.int .i64 t372)) (fun _ h_ => h_.1))) hb); have n4_ := Aside0.mk (blk_below (g := gb327) (o := .cells #[.slice A0_0 l0_0.length c0_0, .int .i64 a0_1] 46 (0, 0)) (bp_ BK327.out) hb); have n5_ := Aside0.mk (blk_below (g := gb335) (o := .cells #[.slice Ao95 t364.length co95, .int .i64 t367] 46 (0, 0)) (bp_ BK335.out) hb); have n6_ := Aside0.mk (blk_below (g := gb342) (o := .cells #[.slice Ao100 t369.length co100, .int .i64 t372] 46 (0, 0)) (bp_ BK342.out) hb); have n7_ := bs_ HB hb; clear HO_336000; clear HO_343000; clear HO366; clear HO371; clear BK327; clear BK335; clear BK342; clear HB; have HO_336000 := n0_; have HO_343000 := n1_; have HO366 := n2_; have HO371 := n3_; have BK327 := n4_; have BK335 := n5_; have BK342 := n6_; have HB := n7_; clear n0_ n1_ n2_ n3_ n4_ n5_ n6_ n7_; (try clear hb); (try clear hb2); (try clear hk); (try clear hi)) | (go_at_call 33; (with_reducible refine (calamuslaw11_lives.calls kj48  t375 _ A90.out).mono ?_); rintro e w104 ⟨rfl, hb⟩; have n0_ := Aside0.mk (Kd.R_below (rw_ HO_336000.out) hb); have n1_ := Aside0.mk (Kd.R_below (rw_ HO_343000.out) hb); have n2_ := Aside0.mk (Kd.R_below (rw_ HO366.out) hb); have n3_ := Aside0.mk (Kd.R_below (rw_ HO371.out) hb); have n4_ := bb_ BK327 hb; have n5_ := bb_ BK335 hb; have n6_ := bb_ BK342 hb; have n7_ := bs_ HB hb; clear HO_336000; clear HO_343000; clear HO366; clear HO371; clear BK327; clear BK335; clear BK342; clear HB; have HO_336000 := n0_; have HO_343000 := n1_; have HO366 := n2_; have HO371 := n3_; have BK327 := n4_; have BK335 := n5_; have BK342 := n6_; have HB := n7_; clear n0_ n1_ n2_ n3_ n4_ n5_ n6_ n7_; (try clear hb); (try clear hb2); (try clear hk); (try clear hi)))
          go_ret
          exact ⟨by first | rfl | (simp [errW_none, errW_some] <;> rfl) | (simp [*, errW_none, errW_some] <;> rfl), hb_ HB⟩
         ·rw [if_neg c89] at H
          have c89b0 : (t368 == t373) = false := beq_eq_false_iff_ne.mpr c89
          have c89b1 : (t368 != t373) = true := bne_iff_ne.mpr c89
          exact nf_ H hr_
        ·replace c88 := Bool.eq_false_iff.mpr c88
         subst c88
         have H1 : (some false) = some r := by rw [if_neg (show ¬ (false = true) by decide)] at H; exact H
         clear H
         have H := H1
         clear H1
         exact nf_ H hr_
end Go.Proofs.Ytkiokimpblimcaa.PTreeSteps
