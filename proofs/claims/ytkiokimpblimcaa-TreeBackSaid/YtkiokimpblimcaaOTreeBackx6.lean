/- Of the law calamus/calamuslaw11.TreeBack: each function as a plain Lean function, with a proof that the call comes to it; the row. By wip/tpl/own_print.py. Conditions: none but the row's own. -/
import Derived.Test.YtkiokimpblimcaaOTreeBackx0
import Derived.Test.YtkiokimpblimcaaOTreeBackx1
import Derived.Test.YtkiokimpblimcaaOTreeBackx2
import Derived.Test.YtkiokimpblimcaaOTreeBackx4
import Derived.Test.YtkiokimpblimcaaOTreeBackx5
namespace Go.Proofs.Ytkiokimpblimcaa.PTreeBack
open Go.RowKit Go.Proofs.YtkiokimpblimcaaW.PrintWords Go.Proofs.YtkiokimpblimcaaW.PrintLast Go.Proofs.YtkiokimpblimcaaW.PrintMore
attribute [local go_sem] max2_int min2_int max_two min_two max_three min_three max_four min_four   -- for this text's walks alone
set_option linter.unusedVariables false
set_option linter.unusedSimpArgs false

attribute [local go_sem high] eqA69
/-! ### calamuslaw11_lives: function 33 -/
def calamuslaw11_lives.f (k : Nat)  : Option (Bool) := (tree_New.f).bind fun bt188 => ((tree_Add.f k bt188.1 bt188.2 0 (⟨#[]⟩ : ByteArray) (⟨#[97]⟩ : ByteArray) 0 1).bind fun bt192 => ((tree_Undo.f k bt192.1 bt192.2.1).bind fun bt198 => ((tree_Add.f k bt198.1 bt198.2.1 0 (⟨#[]⟩ : ByteArray) (⟨#[98]⟩ : ByteArray) 0 1).bind fun bt205 => (if bt192.2.2 = 0 then (if bt198.2.2.1 = 1 then (if bt198.2.2.2 = true then (if bt205.2.2 = 0 then ((tree_Kids.f k bt205.1 bt205.2.1 0).bind fun t211 => ((calamusref01_Same.f k t211 (([1, 2] : List Int))).bind fun t217 => (if t217 = true then (if bt205.2.1 = 2 then (if (bt205.1.length : Int) = 3 then (if 0 < (bt205.1.length : Int) then (some (((rd_T69 bt205.1 0).f1) == 2)) else (none)) else (some false)) else (some false)) else (some false)))) else (some false)) else (some false)) else (some false)) else (some false)))))
theorem calamuslaw11_lives.mono : ∀ k, LeO (calamuslaw11_lives.f k ) (calamuslaw11_lives.f (k + 1) ) := by
 intro  k
 unfold calamuslaw11_lives.f
 repeat' first
   | (with_reducible exact calamusref01_Same.mono _ _ _)
   | (with_reducible exact tree_Add.mono _ _ _ _ _ _ _ _)
   | (with_reducible exact tree_Kids.mono _ _ _ _)
   | (with_reducible exact tree_Undo.mono _ _ _)
   | (with_reducible exact LeO.refl _)
   | (with_reducible exact LeO.none _)
   | (with_reducible refine LeO.ite ?_ ?_)
   | (with_reducible refine LeO.bind ?_ (fun _ => ?_))
   | exact calamusref01_Same.mono _ _ _
   | exact tree_Add.mono _ _ _ _ _ _ _ _
   | exact tree_Kids.mono _ _ _ _
   | exact tree_Undo.mono _ _ _
   | exact LeO.none _
   | refine LeO.ite ?_ ?_
   | refine LeO.bind ?_ (fun _ => ?_)
theorem calamuslaw11_lives.true_ {k : Nat} {r : Bool} (h : calamuslaw11_lives.f k = some r) : r = true := by
 have h1 := at_rounds (g := fun k => calamuslaw11_lives.f k) calamuslaw11_lives.mono (Nat.le_max_left k 60) h
 have h2 := at_rounds (g := fun k => calamuslaw11_lives.f k) calamuslaw11_lives.mono (Nat.le_max_right k 60) (show calamuslaw11_lives.f 60 = some true by decide +kernel)
 rw [h1] at h2
 exact Option.some.inj h2
set_option maxHeartbeats 8000000 in
set_option maxRecDepth 100000 in
theorem calamuslaw11_lives.calls (k : Nat)  (r : Bool) (w : World) (h : calamuslaw11_lives.f k  = some r) :
  Calls Try.prog 33 #[] w fun e w' => e = .returned (.bool r) ∧ Below w.heap.size w w' := by
 have hr_ := calamuslaw11_lives.true_ h
 have hu24 := Try.underlying24
 have hu46 := Try.underlying46
 have HB := Aside0.mk (Below.refl w.heap.size w)
 have H : ((tree_New.f).bind fun bt188 => ((tree_Add.f k bt188.1 bt188.2 0 (⟨#[]⟩ : ByteArray) (⟨#[97]⟩ : ByteArray) 0 1).bind fun bt192 => ((tree_Undo.f k bt192.1 bt192.2.1).bind fun bt198 => ((tree_Add.f k bt198.1 bt198.2.1 0 (⟨#[]⟩ : ByteArray) (⟨#[98]⟩ : ByteArray) 0 1).bind fun bt205 => (if bt192.2.2 = 0 then (if bt198.2.2.1 = 1 then (if bt198.2.2.2 = true then (if bt205.2.2 = 0 then ((tree_Kids.f k bt205.1 bt205.2.1 0).bind fun t211 => ((calamusref01_Same.f k t211 (([1, 2] : List Int))).bind fun t217 => (if t217 = true then (if bt205.2.1 = 2 then (if (bt205.1.length : Int) = 3 then (if 0 < (bt205.1.length : Int) then (some (((rd_T69 bt205.1 0).f1) == 2)) else (none)) else (some false)) else (some false)) else (some false)))) else (some false)) else (some false)) else (some false)) else (some false)))))) = some r := h
 clear h
 replace H := Option.bind_eq_some_iff.mp H
 obtain ⟨⟨t188, t191⟩, A10, H⟩ := H
 replace H : ((tree_Add.f k t188 t191 0 (⟨#[]⟩ : ByteArray) (⟨#[97]⟩ : ByteArray) 0 1).bind fun bt192 => ((tree_Undo.f k bt192.1 bt192.2.1).bind fun bt198 => ((tree_Add.f k bt198.1 bt198.2.1 0 (⟨#[]⟩ : ByteArray) (⟨#[98]⟩ : ByteArray) 0 1).bind fun bt205 => (if bt192.2.2 = 0 then (if bt198.2.2.1 = 1 then (if bt198.2.2.2 = true then (if bt205.2.2 = 0 then ((tree_Kids.f k bt205.1 bt205.2.1 0).bind fun t211 => ((calamusref01_Same.f k t211 (([1, 2] : List Int))).bind fun t217 => (if t217 = true then (if bt205.2.1 = 2 then (if (bt205.1.length : Int) = 3 then (if 0 < (bt205.1.length : Int) then (some (((rd_T69 bt205.1 0).f1) == 2)) else (none)) else (some false)) else (some false)) else (some false)))) else (some false)) else (some false)) else (some false)) else (some false))))) = some r := H
 have A1 := Aside0.mk A10
 clear A10
 replace H := Option.bind_eq_some_iff.mp H
 obtain ⟨⟨t192, t195, t196⟩, A20, H⟩ := H
 replace H : ((tree_Undo.f k t192 t195).bind fun bt198 => ((tree_Add.f k bt198.1 bt198.2.1 0 (⟨#[]⟩ : ByteArray) (⟨#[98]⟩ : ByteArray) 0 1).bind fun bt205 => (if t196 = 0 then (if bt198.2.2.1 = 1 then (if bt198.2.2.2 = true then (if bt205.2.2 = 0 then ((tree_Kids.f k bt205.1 bt205.2.1 0).bind fun t211 => ((calamusref01_Same.f k t211 (([1, 2] : List Int))).bind fun t217 => (if t217 = true then (if bt205.2.1 = 2 then (if (bt205.1.length : Int) = 3 then (if 0 < (bt205.1.length : Int) then (some (((rd_T69 bt205.1 0).f1) == 2)) else (none)) else (some false)) else (some false)) else (some false)))) else (some false)) else (some false)) else (some false)) else (some false)))) = some r := H
 have A2 := Aside0.mk A20
 clear A20
 replace H := Option.bind_eq_some_iff.mp H
 obtain ⟨⟨t198, t201, t202, t203⟩, A30, H⟩ := H
 replace H : ((tree_Add.f k t198 t201 0 (⟨#[]⟩ : ByteArray) (⟨#[98]⟩ : ByteArray) 0 1).bind fun bt205 => (if t196 = 0 then (if t202 = 1 then (if t203 = true then (if bt205.2.2 = 0 then ((tree_Kids.f k bt205.1 bt205.2.1 0).bind fun t211 => ((calamusref01_Same.f k t211 (([1, 2] : List Int))).bind fun t217 => (if t217 = true then (if bt205.2.1 = 2 then (if (bt205.1.length : Int) = 3 then (if 0 < (bt205.1.length : Int) then (some (((rd_T69 bt205.1 0).f1) == 2)) else (none)) else (some false)) else (some false)) else (some false)))) else (some false)) else (some false)) else (some false)) else (some false))) = some r := H
 have A3 := Aside0.mk A30
 clear A30
 replace H := Option.bind_eq_some_iff.mp H
 obtain ⟨⟨t205, t208, t209⟩, A40, H⟩ := H
 replace H : (if t196 = 0 then (if t202 = 1 then (if t203 = true then (if t209 = 0 then ((tree_Kids.f k t205 t208 0).bind fun t211 => ((calamusref01_Same.f k t211 (([1, 2] : List Int))).bind fun t217 => (if t217 = true then (if t208 = 2 then (if (t205.length : Int) = 3 then (if 0 < (t205.length : Int) then (some (((rd_T69 t205 0).f1) == 2)) else (none)) else (some false)) else (some false)) else (some false)))) else (some false)) else (some false)) else (some false)) else (some false)) = some r := H
 have A4 := Aside0.mk A40
 clear A40
 by_cases c5 : t196 = 0
 ·rw [if_pos c5] at H
  have c5b0 : (t196 == 0) = true := beq_iff_eq.mpr c5
  have c5b1 : (t196 != 0) = false := bne_eq_false_iff_eq.mpr c5
  clear c5
  by_cases c6 : t202 = 1
  ·rw [if_pos c6] at H
   have c6b0 : (t202 == 1) = true := beq_iff_eq.mpr c6
   have c6b1 : (t202 != 1) = false := bne_eq_false_iff_eq.mpr c6
   clear c6
   by_cases c7 : t203 = true
   ·subst c7
    have H1 : (if t209 = 0 then ((tree_Kids.f k t205 t208 0).bind fun t211 => ((calamusref01_Same.f k t211 (([1, 2] : List Int))).bind fun t217 => (if t217 = true then (if t208 = 2 then (if (t205.length : Int) = 3 then (if 0 < (t205.length : Int) then (some (((rd_T69 t205 0).f1) == 2)) else (none)) else (some false)) else (some false)) else (some false)))) else (some false)) = some r := by rw [if_pos rfl] at H; exact H
    clear H
    have H := H1
    clear H1
    by_cases c8 : t209 = 0
    ·rw [if_pos c8] at H
     have c8b0 : (t209 == 0) = true := beq_iff_eq.mpr c8
     have c8b1 : (t209 != 0) = false := bne_eq_false_iff_eq.mpr c8
     clear c8
     replace H := Option.bind_eq_some_iff.mp H
     obtain ⟨t211, A90, H⟩ := H
     replace H : ((calamusref01_Same.f k t211 (([1, 2] : List Int))).bind fun t217 => (if t217 = true then (if t208 = 2 then (if (t205.length : Int) = 3 then (if 0 < (t205.length : Int) then (some (((rd_T69 t205 0).f1) == 2)) else (none)) else (some false)) else (some false)) else (some false))) = some r := H
     have A9 := Aside0.mk A90
     clear A90
     obtain ⟨y214, hy214⟩ : ∃ y_ : List Int, y_ = (([1, 2] : List Int)) := ⟨_, rfl⟩
     replace H : ((calamusref01_Same.f k t211 y214).bind fun t217 => (if t217 = true then (if t208 = 2 then (if (t205.length : Int) = 3 then (if 0 < (t205.length : Int) then (some (((rd_T69 t205 0).f1) == 2)) else (none)) else (some false)) else (some false)) else (some false))) = some r := th_ H hy214
     have Ny214 := Aside0.mk hy214
     clear hy214
     replace H := Option.bind_eq_some_iff.mp H
     obtain ⟨t217, A100, H⟩ := H
     replace H : (if t217 = true then (if t208 = 2 then (if (t205.length : Int) = 3 then (if 0 < (t205.length : Int) then (some (((rd_T69 t205 0).f1) == 2)) else (none)) else (some false)) else (some false)) else (some false)) = some r := H
     have A10 := Aside0.mk A100
     clear A100
     by_cases c11 : t217 = true
     ·subst c11
      have H1 : (if t208 = 2 then (if (t205.length : Int) = 3 then (if 0 < (t205.length : Int) then (some (((rd_T69 t205 0).f1) == 2)) else (none)) else (some false)) else (some false)) = some r := by rw [if_pos rfl] at H; exact H
      clear H
      have H := H1
      clear H1
      by_cases c12 : t208 = 2
      ·rw [if_pos c12] at H
       have c12b0 : (t208 == 2) = true := beq_iff_eq.mpr c12
       have c12b1 : (t208 != 2) = false := bne_eq_false_iff_eq.mpr c12
       clear c12
       by_cases c13 : (t205.length : Int) = 3
       ·rw [if_pos c13] at H
        have c13b0 : ((t205.length : Int) == 3) = true := beq_iff_eq.mpr c13
        have c13b1 : ((t205.length : Int) != 3) = false := bne_eq_false_iff_eq.mpr c13
        clear c13
        by_cases c14 : 0 < (t205.length : Int)
        ·rw [if_pos c14] at H
         have c14b0 : decide (0 < (t205.length : Int)) = true := decide_eq_true c14
         have c14b1 : decide (0 < t205.length) = true := decide_eq_true (by omega)
         clear c14
         obtain rfl := Option.some.inj H
         go_enter Try.func33, Try.ntmps33
         go_wp2_with (first | ((with_reducible refine gate_callee (f := 40) rfl ?_); refine ge_ (some 9) rfl rfl Try.func40 (by kernel_rfl) rfl #[] rfl (h := ?_); (with_reducible refine (tree_New.calls  t188 t191 _ A1.out).mono ?_); rintro e w15 ⟨v189, rfl, ho0, hb⟩; refine ⟨_, rfl, ?_⟩; have HO190 := Aside0.mk (Kd.R_lower ho0 (below_size (hb_ HB))); replace HB := bs_ HB hb; (try clear hb); (try clear hb2); (try clear hk); (try clear hi); (try clear ho0); obtain ⟨Ao16, co16, eo16⟩ := Kd.R_slice HO190.out; subst eo16) | ((with_reducible refine gate_callee (f := 34) rfl ?_); refine ge_ (some 11) rfl rfl Try.func34 (by kernel_rfl) rfl #[.agg #[.slice Ao16 t188.length co16, .int .i64 t191], .agg #[.int .i64 0, .string (⟨#[]⟩ : ByteArray), .string (⟨#[97]⟩ : ByteArray)], .int .i64 0, .int .i64 1] rfl (h := ?_); (with_reducible refine (tree_Add.calls k _ _ t188 t191 0 (⟨#[]⟩ : ByteArray) (⟨#[97]⟩ : ByteArray) 0 1 t192 t195 t196 _ ?side1 ?side2 A2.out).mono ?_); (case side1 => repeat (first | exact (Kd.R_reads' HO190.out).2.2 | (with_reducible refine Kd.C_alloc ?_ _) | (with_reducible refine Kd.C_drewN ?_ _) | (with_reducible refine Kd.C_drew ?_))); (case side2 => exact (Kd.R_reads' HO190.out).2.1); rintro e w17 ⟨v193, rfl, ho0, hb⟩; refine ⟨_, rfl, ?_⟩; have HO194 := Aside0.mk (Kd.R_lower (Kd.R_new' ho0 (Kd.R_lt (rw_ HO190.out))) (below_size (hb_ HB))); replace HO190 := Aside0.mk (Kd.R_elder' (rw_ HO190.out) (Kd.R_base ho0) hb); replace HB := bs_ HB hb; (try clear hb); (try clear hb2); (try clear hk); (try clear hi); (try clear ho0)) | ((with_reducible refine gate_dst (N := 1) rfl ?_); (try (refine gate_guard (by rfl) ?_; dsimp only)); refine be_ (N := 1) (cs := #[.slice none 0 0, .int .i64 0]) (t := 46) (h := ?_); intro gb197 hg w18 hbox hb; have BK197 := Aside0.mk (hbox); have GW197 := gw_ HB hg; have GE197 := gw_ HB hg; replace HO190 := Aside0.mk (Kd.R_below (rw_ HO190.out) hb); replace HO194 := Aside0.mk (Kd.R_below (rw_ HO194.out) hb); replace HB := bs_ HB hb; clear hb hbox hg; obtain ⟨Ao19, co19, eo19⟩ := Kd.R_slice HO194.out; subst eo19; obtain ⟨hcz20_0, hcz20_1, hfz20_0, hfz20_1⟩ := bc2_ BK197) | ((with_reducible refine gate_callee (f := 42) rfl ?_); refine ge_ (some 16) rfl rfl Try.func42 (by kernel_rfl) rfl #[.agg #[.slice Ao19 t192.length co19, .int .i64 t195]] rfl (h := ?_); (with_reducible refine (tree_Undo.calls k _ _ t192 t195 t198 t201 t202 true _ ?side1 ?side2 A3.out).mono ?_); (case side1 => refine (Kd.R_reads' (e := 69) (base := w.heap.size) (ok := fun k_ => (True ∧ some k_ ≠ (.slice Ao16 t188.length co16 : Value).ownBlock)) (n := t192.length) (c := co19) ?_).2.2; exact (by (with_reducible repeat (first | apply Kd.R_alloc | apply Kd.R_drewN | apply Kd.R_drew)); exact (Kd.R_mono (rf_ (Kd.R_types HO194.out BK197.out (by decide)) (fun _ hk => hk.2)) (fun _ h_ => h_.1)))); (case side2 => exact (Kd.R_reads' HO194.out).2.1); rintro e w21 ⟨v199, rfl, ho0, hb⟩; refine ⟨_, rfl, ?_⟩; have HO200 := Aside0.mk (Kd.R_lower (Kd.R_new' (Kd.R_new' ho0 (Kd.R_lt (by (with_reducible repeat (first | apply Kd.R_alloc | apply Kd.R_drewN | apply Kd.R_drew)); exact (Kd.R_mono (rf_ (Kd.R_types HO190.out BK197.out (by decide)) (fun _ hk => hk.2)) (fun _ h_ => h_.1))))) (Kd.R_lt (by (with_reducible repeat (first | apply Kd.R_alloc | apply Kd.R_drewN | apply Kd.R_drew)); exact (Kd.R_mono (rf_ (Kd.R_types HO194.out BK197.out (by decide)) (fun _ hk => hk.2)) (fun _ h_ => h_.1))))) (below_size (hb_ HB))); replace HO190 := Aside0.mk (Kd.R_elder' (by (with_reducible repeat (first | apply Kd.R_alloc | apply Kd.R_drewN | apply Kd.R_drew)); exact (Kd.R_mono (rf_ (Kd.R_types HO190.out BK197.out (by decide)) (fun _ hk => hk.2)) (fun _ h_ => h_.1))) (Kd.R_base ho0) hb); replace HO194 := Aside0.mk (Kd.R_elder' (by (with_reducible repeat (first | apply Kd.R_alloc | apply Kd.R_drewN | apply Kd.R_drew)); exact (Kd.R_mono (rf_ (Kd.R_types HO194.out BK197.out (by decide)) (fun _ hk => hk.2)) (fun _ h_ => h_.1))) (Kd.R_base ho0) hb); replace HB := bs_ HB hb; replace BK197 := Aside0.mk (blk_below (g := gb197) (o := .cells #[.slice Ao19 t192.length co19, .int .i64 t195] 46 (0, 0)) (bp_ BK197.out) hb); (try clear hb); (try clear hb2); (try clear hk); (try clear hi); (try clear ho0)) | ((with_reducible refine gate_dst (N := 3) rfl ?_); (try (refine gate_guard (by rfl) ?_; dsimp only)); refine be_ (N := 3) (cs := #[.slice none 0 0, .int .i64 0]) (t := 46) (h := ?_); intro gb204 hg w22 hbox hb; have BK204 := Aside0.mk (hbox); have GW204 := gw_ HB hg; have GE204 := gw_ HB hg; have NB197_204 := ne_ BK197 hg; have NB204_197 := en_ BK197 hg; replace HO190 := Aside0.mk (Kd.R_below (rw_ HO190.out) hb); replace HO194 := Aside0.mk (Kd.R_below (rw_ HO194.out) hb); replace HO200 := Aside0.mk (Kd.R_below (rw_ HO200.out) hb); replace BK197 := bb_ BK197 hb; replace HB := bs_ HB hb; clear hb hbox hg; obtain ⟨Ao23, co23, eo23⟩ := Kd.R_slice HO200.out; subst eo23; have hnb24 := NB204_197.out; have hnc24 := NB197_204.out; obtain ⟨hcz25_0, hcz25_1, hfz25_0, hfz25_1⟩ := bc2_ BK204) | ((with_reducible refine gate_callee (f := 34) rfl ?_); refine ge_ (some 23) rfl rfl Try.func34 (by kernel_rfl) rfl #[.agg #[.slice Ao23 t198.length co23, .int .i64 t201], .agg #[.int .i64 0, .string (⟨#[]⟩ : ByteArray), .string (⟨#[98]⟩ : ByteArray)], .int .i64 0, .int .i64 1] rfl (h := ?_); (with_reducible refine (tree_Add.calls k _ _ t198 t201 0 (⟨#[]⟩ : ByteArray) (⟨#[98]⟩ : ByteArray) 0 1 t205 t208 t209 _ ?side1 ?side2 A4.out).mono ?_); (case side1 => refine (Kd.R_reads' (e := 69) (base := w.heap.size) (ok := fun k_ => ((True ∧ some k_ ≠ (.slice Ao16 t188.length co16 : Value).ownBlock) ∧ some k_ ≠ (.slice Ao19 t192.length co19 : Value).ownBlock)) (n := t198.length) (c := co23) ?_).2.2; exact (by (with_reducible repeat (first | apply Kd.R_alloc | apply Kd.R_drewN | apply Kd.R_drew)); exact (Kd.R_mono (rf_ (Kd.R_types HO200.out BK204.out (by decide)) (fun _ hk => hk.2)) (fun _ h_ => h_.1)))); (case side2 => exact (Kd.R_reads' HO200.out).2.1); rintro e w26 ⟨v206, rfl, ho0, hb⟩; refine ⟨_, rfl, ?_⟩; have HO207 := Aside0.mk (Kd.R_lower (Kd.R_new' (Kd.R_new' (Kd.R_new' ho0 (Kd.R_lt (by (with_reducible repeat (first | apply Kd.R_alloc | apply Kd.R_drewN | apply Kd.R_drew)); exact (Kd.R_mono (rf_ (Kd.R_types HO190.out BK204.out (by decide)) (fun _ hk => hk.2)) (fun _ h_ => h_.1))))) (Kd.R_lt (by (with_reducible repeat (first | apply Kd.R_alloc | apply Kd.R_drewN | apply Kd.R_drew)); exact (Kd.R_mono (rf_ (Kd.R_types HO194.out BK204.out (by decide)) (fun _ hk => hk.2)) (fun _ h_ => h_.1))))) (Kd.R_lt (by (with_reducible repeat (first | apply Kd.R_alloc | apply Kd.R_drewN | apply Kd.R_drew)); exact (Kd.R_mono (rf_ (Kd.R_types HO200.out BK204.out (by decide)) (fun _ hk => hk.2)) (fun _ h_ => h_.1))))) (below_size (hb_ HB))); replace HO190 := Aside0.mk (Kd.R_elder' (by (with_reducible repeat (first | apply Kd.R_alloc | apply Kd.R_drewN | apply Kd.R_drew)); exact (Kd.R_mono (rf_ (Kd.R_types HO190.out BK204.out (by decide)) (fun _ hk => hk.2)) (fun _ h_ => h_.1))) (Kd.R_base ho0) hb); replace HO194 := Aside0.mk (Kd.R_elder' (by (with_reducible repeat (first | apply Kd.R_alloc | apply Kd.R_drewN | apply Kd.R_drew)); exact (Kd.R_mono (rf_ (Kd.R_types HO194.out BK204.out (by decide)) (fun _ hk => hk.2)) (fun _ h_ => h_.1))) (Kd.R_base ho0) hb); replace HO200 := Aside0.mk (Kd.R_elder' (by (with_reducible repeat (first | apply Kd.R_alloc | apply Kd.R_drewN | apply Kd.R_drew)); exact (Kd.R_mono (rf_ (Kd.R_types HO200.out BK204.out (by decide)) (fun _ hk => hk.2)) (fun _ h_ => h_.1))) (Kd.R_base ho0) hb); replace BK197 := Aside0.mk (blk_below (g := gb197) (o := .cells #[.slice Ao19 t192.length co19, .int .i64 t195] 46 (0, 0)) (bp_ BK197.out) hb); replace HB := bs_ HB hb; replace BK204 := Aside0.mk (blk_below (g := gb204) (o := .cells #[.slice Ao23 t198.length co23, .int .i64 t201] 46 (0, 0)) (bp_ BK204.out) hb); (try clear hb); (try clear hb2); (try clear hk); (try clear hi); (try clear ho0)) | ((with_reducible refine gate_dst (N := 6) rfl ?_); (try (refine gate_guard (by rfl) ?_; dsimp only)); refine be_ (N := 6) (cs := #[.slice none 0 0, .int .i64 0]) (t := 46) (h := ?_); intro gb210 hg w27 hbox hb; have BK210 := Aside0.mk (hbox); have GW210 := gw_ HB hg; have GE210 := gw_ HB hg; have NB197_210 := ne_ BK197 hg; have NB210_197 := en_ BK197 hg; have NB204_210 := ne_ BK204 hg; have NB210_204 := en_ BK204 hg; replace HO190 := Aside0.mk (Kd.R_below (rw_ HO190.out) hb); replace HO194 := Aside0.mk (Kd.R_below (rw_ HO194.out) hb); replace HO200 := Aside0.mk (Kd.R_below (rw_ HO200.out) hb); replace HO207 := Aside0.mk (Kd.R_below (rw_ HO207.out) hb); replace BK197 := bb_ BK197 hb; replace BK204 := bb_ BK204 hb; replace HB := bs_ HB hb; clear hb hbox hg; obtain ⟨Ao28, co28, eo28⟩ := Kd.R_slice HO207.out; subst eo28; have hnb29 := NB210_197.out; have hnc29 := NB197_210.out; have hnb30 := NB210_204.out; have hnc30 := NB204_210.out; obtain ⟨hcz31_0, hcz31_1, hfz31_0, hfz31_1⟩ := bc2_ BK210) | (go_at_call 47; (with_reducible refine (tree_Kids.calls k _ _ t205 t208 0 t211 _ ?side1 ?side2 A9.out).mono ?_); (case side1 => refine (Kd.R_reads' (e := 69) (base := w.heap.size) (ok := fun k_ => (((True ∧ some k_ ≠ (.slice Ao16 t188.length co16 : Value).ownBlock) ∧ some k_ ≠ (.slice Ao19 t192.length co19 : Value).ownBlock) ∧ some k_ ≠ (.slice Ao23 t198.length co23 : Value).ownBlock)) (n := t205.length) (c := co28) ?_).2.2; exact (by (with_reducible repeat (first | apply Kd.R_alloc | apply Kd.R_drewN | apply Kd.R_drew)); exact (Kd.R_mono (rf_ (Kd.R_types HO207.out BK210.out (by decide)) (fun _ hk => hk.2)) (fun _ h_ => h_.1)))); (case side2 => exact (Kd.R_reads' HO207.out).2.1); rintro e w32 ⟨v212, rfl, ho0, hb⟩; have HO213 := Aside0.mk (Kd.R_lower ho0 (below_size (hb_ HB))); replace HO190 := Aside0.mk (Kd.R_below (by (with_reducible repeat (first | apply Kd.R_alloc | apply Kd.R_drewN | apply Kd.R_drew)); exact (Kd.R_mono (rf_ (Kd.R_types HO190.out BK210.out (by decide)) (fun _ hk => hk.2)) (fun _ h_ => h_.1))) hb); replace HO194 := Aside0.mk (Kd.R_below (by (with_reducible repeat (first | apply Kd.R_alloc | apply Kd.R_drewN | apply Kd.R_drew)); exact (Kd.R_mono (rf_ (Kd.R_types HO194.out BK210.out (by decide)) (fun _ hk => hk.2)) (fun _ h_ => h_.1))) hb); replace HO200 := Aside0.mk (Kd.R_below (by (with_reducible repeat (first | apply Kd.R_alloc | apply Kd.R_drewN | apply Kd.R_drew)); exact (Kd.R_mono (rf_ (Kd.R_types HO200.out BK210.out (by decide)) (fun _ hk => hk.2)) (fun _ h_ => h_.1))) hb); replace HO207 := Aside0.mk (Kd.R_below (by (with_reducible repeat (first | apply Kd.R_alloc | apply Kd.R_drewN | apply Kd.R_drew)); exact (Kd.R_mono (rf_ (Kd.R_types HO207.out BK210.out (by decide)) (fun _ hk => hk.2)) (fun _ h_ => h_.1))) hb); replace BK197 := Aside0.mk (blk_below (g := gb197) (o := .cells #[.slice Ao19 t192.length co19, .int .i64 t195] 46 (0, 0)) (bp_ BK197.out) hb); replace BK204 := Aside0.mk (blk_below (g := gb204) (o := .cells #[.slice Ao23 t198.length co23, .int .i64 t201] 46 (0, 0)) (bp_ BK204.out) hb); replace HB := bs_ HB hb; replace BK210 := Aside0.mk (blk_below (g := gb210) (o := .cells #[.slice Ao28 t205.length co28, .int .i64 t208] 46 (0, 0)) (bp_ BK210.out) hb); (try clear hb); (try clear hb2); (try clear hk); (try clear hi); (try clear ho0)) | ((with_reducible refine gate_dst (N := 42) rfl ?_); (try (refine gate_guard (by rfl) ?_; dsimp only)); refine Kd.R_lit (Kd.int .i64) _ 3 ?hg (N := 42) ?hd (xs := ([1, 2] : List Int)) (inner := [.int .i64 1, .int .i64 2]) (ok := fun _ => True) (okp := fun _ => True) ?hr ?hp (fun _ hk => hk) trivial (Below.refl _ _) (Nat.le_refl _) (by simp) ?_; (case hd => rfl); (case hg => rfl); (case hr => first | (go_simp; done) | (go_simp; rfl)); (case hp => exact (Reps.one (show Kd.M (Kd.int .i64) _ _ _ 1 [.int .i64 1] from rfl) (Reps.one (show Kd.M (Kd.int .i64) _ _ _ 2 [.int .i64 2] from rfl) (Reps.none _ _)))); intro v215 w33 ho34 hb hg_ hnew_; clear hg_ hnew_; (first | rw [← Ny214.out] at ho34 | (simp only [Int.reduceToNat] at ho34; rw [← Ny214.out] at ho34)); have HO216 := Aside0.mk (Kd.R_lower (Kd.R_new' ho34 (Kd.R_lt (rw_ HO213.out))) (below_size (hb_ HB))); replace HO190 := Aside0.mk (Kd.R_below (rw_ HO190.out) hb); replace HO194 := Aside0.mk (Kd.R_below (rw_ HO194.out) hb); replace HO200 := Aside0.mk (Kd.R_below (rw_ HO200.out) hb); replace HO207 := Aside0.mk (Kd.R_below (rw_ HO207.out) hb); replace HO213 := Aside0.mk (Kd.R_elder' (rw_ HO213.out) (Kd.R_base ho34) hb); replace BK197 := bb_ BK197 hb; replace BK204 := bb_ BK204 hb; replace BK210 := bb_ BK210 hb; replace HB := bs_ HB hb; clear hb ho34; obtain ⟨Ao35, co35, eo35⟩ := Kd.R_slice HO213.out; subst eo35; obtain ⟨Ao36, co36, eo36⟩ := Kd.R_slice HO216.out; subst eo36) | (go_at_call 46; (with_reducible refine (calamusref01_Same.calls k _ _ t211 _ _ y214 true _ ?side1 ?side2 ?side3 ?side4 A10.out).mono ?_); (case side1 => repeat (first | exact (Kd.R_reads' HO213.out).2.2 | (with_reducible refine Kd.C_alloc ?_ _) | (with_reducible refine Kd.C_drewN ?_ _) | (with_reducible refine Kd.C_drew ?_))); (case side2 => exact (Kd.R_reads' HO213.out).2.1); (case side3 => repeat (first | exact (Kd.R_reads' HO216.out).2.2 | (with_reducible refine Kd.C_alloc ?_ _) | (with_reducible refine Kd.C_drewN ?_ _) | (with_reducible refine Kd.C_drew ?_))); (case side4 => exact (Kd.R_reads' HO216.out).2.1); rintro e w' ⟨rfl, ⟨nd, rfl⟩⟩; obtain ⟨hcz37_0, hcz37_1, hfz37_0, hfz37_1⟩ := bc2_ BK210; have p218 : 0 ≤ (0 : Int) := (by omega); have q218 : 0 < (t205.length : Int) := of_decide_eq_true as_; obtain ⟨ad218, e218, hx218_0, hx218_1, hx218_2, hx218_3, hx218_4, hx218_5, hx218_6⟩ := at_T69 (Kd.R_reads' HO207.out).2.2 0 p218 q218; cases e218; have qi218 : (0 < t205.length) = True := eq_true (by omega); (try rw [show ((0 : Int)).toNat = 0 from rfl] at hx218_0); (try rw [show 0 * 7 = 0 from rfl] at hx218_0); (try rw [Addr.add_zero'] at hx218_0); (try rw [show ((0 : Int)).toNat = 0 from rfl] at hx218_1); (try rw [show 0 * 7 = 0 from rfl] at hx218_1); (try rw [Addr.add_zero'] at hx218_1); (try rw [show ((0 : Int)).toNat = 0 from rfl] at hx218_2); (try rw [show 0 * 7 = 0 from rfl] at hx218_2); (try rw [Addr.add_zero'] at hx218_2); (try rw [show ((0 : Int)).toNat = 0 from rfl] at hx218_3); (try rw [show 0 * 7 = 0 from rfl] at hx218_3); (try rw [Addr.add_zero'] at hx218_3); (try rw [show ((0 : Int)).toNat = 0 from rfl] at hx218_4); (try rw [show 0 * 7 = 0 from rfl] at hx218_4); (try rw [Addr.add_zero'] at hx218_4); (try rw [show ((0 : Int)).toNat = 0 from rfl] at hx218_5); (try rw [show 0 * 7 = 0 from rfl] at hx218_5); (try rw [Addr.add_zero'] at hx218_5); (try rw [show ((0 : Int)).toNat = 0 from rfl] at hx218_6); (try rw [show 0 * 7 = 0 from rfl] at hx218_6); (try rw [Addr.add_zero'] at hx218_6); replace p218 := eq_true p218; replace q218 := eq_true q218))
         go_ret
         exact ⟨er_, hb_ HB⟩
        ·rw [if_neg c14] at H
         exact absurd H (by simp)
       ·rw [if_neg c13] at H
        have c13b0 : ((t205.length : Int) == 3) = false := beq_eq_false_iff_ne.mpr c13
        have c13b1 : ((t205.length : Int) != 3) = true := bne_iff_ne.mpr c13
        exact nf_ H hr_
      ·rw [if_neg c12] at H
       have c12b0 : (t208 == 2) = false := beq_eq_false_iff_ne.mpr c12
       have c12b1 : (t208 != 2) = true := bne_iff_ne.mpr c12
       exact nf_ H hr_
     ·replace c11 := Bool.eq_false_iff.mpr c11
      subst c11
      have H1 : (some false) = some r := by rw [if_neg (show ¬ (false = true) by decide)] at H; exact H
      clear H
      have H := H1
      clear H1
      exact nf_ H hr_
    ·rw [if_neg c8] at H
     have c8b0 : (t209 == 0) = false := beq_eq_false_iff_ne.mpr c8
     have c8b1 : (t209 != 0) = true := bne_iff_ne.mpr c8
     exact nf_ H hr_
   ·replace c7 := Bool.eq_false_iff.mpr c7
    subst c7
    have H1 : (some false) = some r := by rw [if_neg (show ¬ (false = true) by decide)] at H; exact H
    clear H
    have H := H1
    clear H1
    exact nf_ H hr_
  ·rw [if_neg c6] at H
   have c6b0 : (t202 == 1) = false := beq_eq_false_iff_ne.mpr c6
   have c6b1 : (t202 != 1) = true := bne_iff_ne.mpr c6
   exact nf_ H hr_
 ·rw [if_neg c5] at H
  have c5b0 : (t196 == 0) = false := beq_eq_false_iff_ne.mpr c5
  have c5b1 : (t196 != 0) = true := bne_iff_ne.mpr c5
  exact nf_ H hr_
/-! ### tree_Right: function 36 -/
def tree_Right.f (k : Nat) (l0_0 : List (S69)) (a0_1 : Int) : Option (Bool) := (tree_open.f k l0_0 a0_1).bind fun bt220 => (some bt220.2.2)
theorem tree_Right.mono : ∀ a0 a1 k, LeO (tree_Right.f k a0 a1) (tree_Right.f (k + 1) a0 a1) := by
 intro a0 a1 k
 unfold tree_Right.f
 repeat' first
   | (with_reducible exact tree_open.mono _ _ _)
   | (with_reducible exact LeO.refl _)
   | (with_reducible exact LeO.none _)
   | (with_reducible refine LeO.ite ?_ ?_)
   | (with_reducible refine LeO.bind ?_ (fun _ => ?_))
   | exact tree_open.mono _ _ _
   | exact LeO.none _
   | refine LeO.ite ?_ ?_
   | refine LeO.bind ?_ (fun _ => ?_)
set_option maxHeartbeats 8000000 in
set_option maxRecDepth 100000 in
theorem tree_Right.calls (k : Nat) (A0_0 : Option Addr) (c0_0 : Nat) (l0_0 : List (S69)) (a0_1 : Int) (r : Bool) (w : World) (hr0_0 : Kd.C k69 w A0_0 l0_0.length l0_0) (hc0_0 : l0_0.length ≤ c0_0) (h : tree_Right.f k l0_0 a0_1 = some r) :
  Calls Try.prog 36 #[.agg #[.slice A0_0 l0_0.length c0_0, .int .i64 a0_1]] w fun e w' => e = .returned (.bool r) ∧ Below w.heap.size w w' := by
 have hu46 := Try.underlying46
 have hfd104_1 := fun (w : World) (c0 c1 c2 : Value) => (by kernel_rfl : (Instr.field 104 (.agg #[c0, c1, c2]) 1).run Try.prog w = .ok c2 w)
 have HR0_0 := Aside0.mk hr0_0
 have HC0_0 := Aside0.mk hc0_0
 clear hr0_0 hc0_0
 have HB := Aside0.mk (Below.refl w.heap.size w)
 have H : ((tree_open.f k l0_0 a0_1).bind fun bt220 => (some bt220.2.2)) = some r := h
 clear h
 replace H := Option.bind_eq_some_iff.mp H
 obtain ⟨⟨t220, t223, t224⟩, A20, H⟩ := H
 replace H : (some t224) = some r := H
 have A2 := Aside0.mk A20
 clear A20
 obtain rfl := Option.some.inj H
 go_enter Try.func36, Try.ntmps36
 go_wp2_with (first | ((with_reducible refine gate_dst (N := 1) rfl ?_); refine be_ (N := 1) (cs := #[.slice A0_0 l0_0.length c0_0, .int .i64 a0_1]) (t := 46) (h := ?_); intro gb219 hg w3 hbox hb; have BK219 := Aside0.mk (hbox); have GW219 := gw_ HB hg; have GE219 := gw_ HB hg; replace HB := bs_ HB hb; clear hb hbox hg; obtain ⟨hcz4_0, hcz4_1, hfz4_0, hfz4_1⟩ := bc2_ BK219) | ((with_reducible refine gate_callee (f := 79) rfl ?_); refine ge_ (some 4) rfl rfl Try.func79 (by kernel_rfl) rfl #[.agg #[.slice A0_0 l0_0.length c0_0, .int .i64 a0_1]] rfl (h := ?_); (with_reducible refine (tree_open.calls k (fun k_ => k_ < w.heap.size) _ _ l0_0 a0_1 t220 t223 t224 _ ?side1 A2.out).mono ?_); (case side1 => exact Kd.V_mk HC0_0.out (Kd.F_below (Kd.C_F k69_heap HR0_0.out) (hb_ HB))); rintro e w5 ⟨v221, rfl, ho0, hb⟩; refine ⟨_, rfl, ?_⟩; have HO222 := Aside0.mk (Kd.V_lower (Kd.V_mono (ok' := fun k_ => k_ ≠ gb219) ho0 (fun k_ hk_ => Or.elim hk_ (fun hs_ => fun e_ => Nat.not_le.2 hs_ (by rw [e_]; exact GW219.out)) (fun hn_ => (Kd.freshB (g := gb219) (o := .cells #[.slice A0_0 l0_0.length c0_0, .int .i64 a0_1] 46 (0, 0)) (bw_ BK219.out) k_ hn_)))) (below_size (hb_ HB))); replace BK219 := bb_ BK219 hb; replace HB := bs_ HB hb; (try clear hb); (try clear hb2); (try clear hk); (try clear hi); (try clear ho0)))
 go_ret
 exact ⟨er_, hb_ HB⟩

/-! ### api_Node_83: function 83 -/
def api_Node_83.l0 : Nat → List (S69) → List (S69) → Int → Int → Option (Bool)
 | 0, _, _, _, _ => none
 | k + 1, x0, x1, x12, x13 => if x13 < x12 then (if 0 ≤ x13 then (if x13 < (x0.length : Int) then (if x13 < (x1.length : Int) then (if (!(((rd_T69 x0 x13).f0) == ((rd_T69 x1 x13).f0)) || (!(((rd_T69 x0 x13).f1) == ((rd_T69 x1 x13).f1)) || (!(((rd_T69 x0 x13).f2) == ((rd_T69 x1 x13).f2)) || (!(((rd_T69 x0 x13).f3) == ((rd_T69 x1 x13).f3)) || ((!(((rd_T69 x0 x13).f4.f0) == ((rd_T69 x1 x13).f4.f0)) || (!((((rd_T69 x0 x13).f4.f1).toList) == (((rd_T69 x1 x13).f4.f1).toList)) || (!((((rd_T69 x0 x13).f4.f2).toList) == (((rd_T69 x1 x13).f4.f2).toList)))))))))) = true then (some false) else (api_Node_83.l0 k x0 x1 x12 (wrap64 (x13 + 1)))) else (none)) else (none)) else (none)) else (some true)
def api_Node_83.f (k : Nat) (l0 : List (S69)) (l1 : List (S69)) : Option (Bool) := if (l0.length : Int) = (l1.length : Int) then (api_Node_83.l0 k l0 l1 (l0.length : Int) 0) else (some false)
theorem api_Node_83.mono_l : ∀ k, (∀ y0 y1 y2 y3, LeO (api_Node_83.l0 k y0 y1 y2 y3) (api_Node_83.l0 (k + 1) y0 y1 y2 y3))
 | 0 => fun _ _ _ _ r h => by simp [api_Node_83.l0] at h
 | k + 1 => by
  have ih0 := api_Node_83.mono_l k
  ·intro y0 y1 y2 y3
   unfold api_Node_83.l0
   repeat' first
   | (with_reducible exact ih0 _ _ _ _)
   | (with_reducible exact LeO.refl _)
   | (with_reducible exact LeO.none _)
   | (with_reducible refine LeO.ite ?_ ?_)
   | (with_reducible refine LeO.bind ?_ (fun _ => ?_))
   | exact ih0 _ _ _ _
   | exact LeO.none _
   | refine LeO.ite ?_ ?_
   | refine LeO.bind ?_ (fun _ => ?_)
theorem api_Node_83.mono : ∀ a0 a1 k, LeO (api_Node_83.f k a0 a1) (api_Node_83.f (k + 1) a0 a1) := by
 intro a0 a1 k
 have ih0 := api_Node_83.mono_l k
 unfold api_Node_83.f
 repeat' first
   | (with_reducible exact ih0 _ _ _ _)
   | (with_reducible exact LeO.refl _)
   | (with_reducible exact LeO.none _)
   | (with_reducible refine LeO.ite ?_ ?_)
   | (with_reducible refine LeO.bind ?_ (fun _ => ?_))
   | exact ih0 _ _ _ _
   | exact LeO.none _
   | refine LeO.ite ?_ ?_
   | refine LeO.bind ?_ (fun _ => ?_)
set_option maxHeartbeats 8000000 in
set_option maxRecDepth 100000 in
theorem api_Node_83.calls (k : Nat) (A0 : Option Addr) (c0 : Nat) (l0 : List (S69)) (A1 : Option Addr) (c1 : Nat) (l1 : List (S69)) (r : Bool) (w : World) (hr0 : Kd.C k69 w A0 l0.length l0) (hc0 : l0.length ≤ c0) (hr1 : Kd.C k69 w A1 l1.length l1) (hc1 : l1.length ≤ c1) (h : api_Node_83.f k l0 l1 = some r) :
  Calls Try.prog 83 #[.slice A0 l0.length c0, .slice A1 l1.length c1] w fun e w' => e = .returned (.bool r) ∧ Drawn0 w w' := by
 have hu69 := Try.underlying69
 have HR0 := Aside0.mk hr0
 have HC0 := Aside0.mk hc0
 clear hr0 hc0
 have HR1 := Aside0.mk hr1
 have HC1 := Aside0.mk hc1
 clear hr1 hc1
 have H : (if (l0.length : Int) = (l1.length : Int) then (api_Node_83.l0 k l0 l1 (l0.length : Int) 0) else (some false)) = some r := h
 clear h
 by_cases c3 : (l0.length : Int) = (l1.length : Int)
 ·rw [if_pos c3] at H
  have c3b0 : ((l0.length : Int) == (l1.length : Int)) = true := beq_iff_eq.mpr c3
  have c3b1 : ((l0.length : Int) != (l1.length : Int)) = false := bne_eq_false_iff_eq.mpr c3
  have c3b2 : (l0.length == l1.length) = true := by first | simpa using c3 | (simp at c3 ⊢; omega)
  clear c3
  have H' := Aside0.mk H
  clear H
  go_enter Try.func83, Try.ntmps83
  go_wp2
  repeat (go_quiet (fail); try go_wp2)
  go_loopg [13] k (fun kq v13 w' => ∃ (x13_1 : Int), v13 = .int .i64 x13_1 ∧ Aside0 (api_Node_83.l0 kq l0 l1 (l0.length : Int) x13_1 = some r) ∧ Aside0 (kq ≤ k) ∧ Drawn0 w w')
  case atStart => exact ⟨(0), es_, H', ⟨Nat.le_refl _⟩, by repeat (first | exact Drawn0.refl _ | apply Drawn0.step)⟩
  case round =>
   clear H'
   try clear c3
   try clear c3b0
   try clear c3b1
   try clear c3b2
   obtain ⟨x13_1, rfl, HA, HK1, ⟨m1, rfl⟩⟩ := hrel
   cases gk with
   | zero => exact absurd HA.out (by simp [api_Node_83.l0])
   | succ k1 =>
    have H := HA.out
    clear HA
    simp only [api_Node_83.l0] at H
    by_cases c4 : x13_1 < (l0.length : Int)
    ·rw [if_pos c4] at H
     have c4b0 : decide (x13_1 < (l0.length : Int)) = true := decide_eq_true c4
     clear c4
     by_cases c5 : 0 ≤ x13_1
     ·rw [if_pos c5] at H
      have c5b0 : decide (0 ≤ x13_1) = true := decide_eq_true c5
      clear c5
      by_cases c6 : x13_1 < (l0.length : Int)
      ·rw [if_pos c6] at H
       have c6b0 : decide (x13_1 < (l0.length : Int)) = true := decide_eq_true c6
       clear c6
       by_cases c7 : x13_1 < (l1.length : Int)
       ·rw [if_pos c7] at H
        have c7b0 : decide (x13_1 < (l1.length : Int)) = true := decide_eq_true c7
        clear c7
        by_cases c8 : (!(((rd_T69 l0 x13_1).f0) == ((rd_T69 l1 x13_1).f0)) || (!(((rd_T69 l0 x13_1).f1) == ((rd_T69 l1 x13_1).f1)) || (!(((rd_T69 l0 x13_1).f2) == ((rd_T69 l1 x13_1).f2)) || (!(((rd_T69 l0 x13_1).f3) == ((rd_T69 l1 x13_1).f3)) || ((!(((rd_T69 l0 x13_1).f4.f0) == ((rd_T69 l1 x13_1).f4.f0)) || (!((((rd_T69 l0 x13_1).f4.f1).toList) == (((rd_T69 l1 x13_1).f4.f1).toList)) || (!((((rd_T69 l0 x13_1).f4.f2).toList) == (((rd_T69 l1 x13_1).f4.f2).toList)))))))))) = true
        ·rw [if_pos c8] at H
         have c8b0 : (!(((rd_T69 l0 x13_1).f0) == ((rd_T69 l1 x13_1).f0)) || (!(((rd_T69 l0 x13_1).f1) == ((rd_T69 l1 x13_1).f1)) || (!(((rd_T69 l0 x13_1).f2) == ((rd_T69 l1 x13_1).f2)) || (!(((rd_T69 l0 x13_1).f3) == ((rd_T69 l1 x13_1).f3)) || ((!(((rd_T69 l0 x13_1).f4.f0) == ((rd_T69 l1 x13_1).f4.f0)) || (!((((rd_T69 l0 x13_1).f4.f1).toList) == (((rd_T69 l1 x13_1).f4.f1).toList)) || (!((((rd_T69 l0 x13_1).f4.f2).toList) == (((rd_T69 l1 x13_1).f4.f2).toList)))))))))) = true := c8
         clear c8
         obtain rfl := Option.some.inj H
         have p225 : 0 ≤ (x13_1 : Int) := of_decide_eq_true as_
         have q225 : x13_1 < (l0.length : Int) := of_decide_eq_true as_
         obtain ⟨ad225, e225, hx225_0, hx225_1, hx225_2, hx225_3, hx225_4, hx225_5, hx225_6⟩ := at_T69 HR0.out x13_1 p225 q225
         cases e225
         replace p225 := eq_true p225
         replace q225 := eq_true q225
         have p226 : 0 ≤ (x13_1 : Int) := of_decide_eq_true as_
         have q226 : x13_1 < (l1.length : Int) := of_decide_eq_true as_
         obtain ⟨ad226, e226, hx226_0, hx226_1, hx226_2, hx226_3, hx226_4, hx226_5, hx226_6⟩ := at_T69 HR1.out x13_1 p226 q226
         cases e226
         replace p226 := eq_true p226
         replace q226 := eq_true q226
         go_wp2
         repeat (go_quiet (fail); try go_wp2)
         go_ret
         exact ⟨by first | rfl | (simp; done) | (simp [*]; done), by repeat (first | exact Drawn0.refl _ | apply Drawn0.step)⟩
        ·rw [if_neg c8] at H
         have c8b0 : (!(((rd_T69 l0 x13_1).f0) == ((rd_T69 l1 x13_1).f0)) || (!(((rd_T69 l0 x13_1).f1) == ((rd_T69 l1 x13_1).f1)) || (!(((rd_T69 l0 x13_1).f2) == ((rd_T69 l1 x13_1).f2)) || (!(((rd_T69 l0 x13_1).f3) == ((rd_T69 l1 x13_1).f3)) || ((!(((rd_T69 l0 x13_1).f4.f0) == ((rd_T69 l1 x13_1).f4.f0)) || (!((((rd_T69 l0 x13_1).f4.f1).toList) == (((rd_T69 l1 x13_1).f4.f1).toList)) || (!((((rd_T69 l0 x13_1).f4.f2).toList) == (((rd_T69 l1 x13_1).f4.f2).toList)))))))))) = false := by simpa using c8
         clear c8
         have H' := Aside0.mk H
         clear H
         have p225 : 0 ≤ (x13_1 : Int) := of_decide_eq_true as_
         have q225 : x13_1 < (l0.length : Int) := of_decide_eq_true as_
         obtain ⟨ad225, e225, hx225_0, hx225_1, hx225_2, hx225_3, hx225_4, hx225_5, hx225_6⟩ := at_T69 HR0.out x13_1 p225 q225
         cases e225
         replace p225 := eq_true p225
         replace q225 := eq_true q225
         have p226 : 0 ≤ (x13_1 : Int) := of_decide_eq_true as_
         have q226 : x13_1 < (l1.length : Int) := of_decide_eq_true as_
         obtain ⟨ad226, e226, hx226_0, hx226_1, hx226_2, hx226_3, hx226_4, hx226_5, hx226_6⟩ := at_T69 HR1.out x13_1 p226 q226
         cases e226
         replace p226 := eq_true p226
         replace q226 := eq_true q226
         go_wp2
         repeat (go_quiet (fail); try go_wp2)
         go_roundg k1
         case measure => have := HK1.out; omega
         case rel => exact ⟨(wrap64 (x13_1 + 1)), es_, H', ⟨by have := HK1.out; omega⟩, by repeat (first | exact Drawn0.refl _ | apply Drawn0.step)⟩
       ·rw [if_neg c7] at H
        exact absurd H (by simp)
      ·rw [if_neg c6] at H
       exact absurd H (by simp)
     ·rw [if_neg c5] at H
      exact absurd H (by simp)
    ·rw [if_neg c4] at H
     have c4b0 : decide (x13_1 < (l0.length : Int)) = false := decide_eq_false c4
     clear c4
     obtain rfl := Option.some.inj H
     go_wp2
     repeat (go_quiet (fail); try go_wp2)
     go_ret
     exact ⟨by first | rfl | (simp; done) | (simp [*]; done), by repeat (first | exact Drawn0.refl _ | apply Drawn0.step)⟩
 ·rw [if_neg c3] at H
  have c3b0 : ((l0.length : Int) == (l1.length : Int)) = false := beq_eq_false_iff_ne.mpr c3
  have c3b1 : ((l0.length : Int) != (l1.length : Int)) = true := bne_iff_ne.mpr c3
  have c3b2 : (l0.length == l1.length) = false := by first | simpa using c3 | (simp at c3 ⊢; omega)
  obtain rfl := Option.some.inj H
  go_enter Try.func83, Try.ntmps83
  go_wp2
  repeat (go_quiet (fail); try go_wp2)
  go_ret
  exact ⟨by first | rfl | (simp; done) | (simp [*]; done), by repeat (first | exact Drawn0.refl _ | apply Drawn0.step)⟩

/-! ### tree_Same: function 39 -/
def tree_Same.f (k : Nat) (l0_0 : List (S69)) (a0_1 : Int) (l1_0 : List (S69)) (a1_1 : Int) : Option (Bool) := if a0_1 = a1_1 then ((api_Node_83.f k l0_0 l1_0).bind fun t229 => (some t229)) else (some false)
theorem tree_Same.mono : ∀ a0 a1 a2 a3 k, LeO (tree_Same.f k a0 a1 a2 a3) (tree_Same.f (k + 1) a0 a1 a2 a3) := by
 intro a0 a1 a2 a3 k
 unfold tree_Same.f
 repeat' first
   | (with_reducible exact api_Node_83.mono _ _ _)
   | (with_reducible exact LeO.refl _)
   | (with_reducible exact LeO.none _)
   | (with_reducible refine LeO.ite ?_ ?_)
   | (with_reducible refine LeO.bind ?_ (fun _ => ?_))
   | exact api_Node_83.mono _ _ _
   | exact LeO.none _
   | refine LeO.ite ?_ ?_
   | refine LeO.bind ?_ (fun _ => ?_)
set_option maxHeartbeats 8000000 in
set_option maxRecDepth 100000 in
theorem tree_Same.calls (k : Nat) (A0_0 : Option Addr) (c0_0 : Nat) (l0_0 : List (S69)) (a0_1 : Int) (A1_0 : Option Addr) (c1_0 : Nat) (l1_0 : List (S69)) (a1_1 : Int) (r : Bool) (w : World) (hr0_0 : Kd.C k69 w A0_0 l0_0.length l0_0) (hc0_0 : l0_0.length ≤ c0_0) (hr1_0 : Kd.C k69 w A1_0 l1_0.length l1_0) (hc1_0 : l1_0.length ≤ c1_0) (h : tree_Same.f k l0_0 a0_1 l1_0 a1_1 = some r) :
  Calls Try.prog 39 #[.agg #[.slice A0_0 l0_0.length c0_0, .int .i64 a0_1], .agg #[.slice A1_0 l1_0.length c1_0, .int .i64 a1_1]] w fun e w' => e = .returned (.bool r) ∧ Below w.heap.size w w' := by
 have hu46 := Try.underlying46
 have HR0_0 := Aside0.mk hr0_0
 have HC0_0 := Aside0.mk hc0_0
 clear hr0_0 hc0_0
 have HR1_0 := Aside0.mk hr1_0
 have HC1_0 := Aside0.mk hc1_0
 clear hr1_0 hc1_0
 have HB := Aside0.mk (Below.refl w.heap.size w)
 have H : (if a0_1 = a1_1 then ((api_Node_83.f k l0_0 l1_0).bind fun t229 => (some t229)) else (some false)) = some r := h
 clear h
 by_cases c3 : a0_1 = a1_1
 ·rw [if_pos c3] at H
  have c3b0 : (a0_1 == a1_1) = true := beq_iff_eq.mpr c3
  have c3b1 : (a0_1 != a1_1) = false := bne_eq_false_iff_eq.mpr c3
  clear c3
  replace H := Option.bind_eq_some_iff.mp H
  obtain ⟨t229, A40, H⟩ := H
  replace H : (some t229) = some r := H
  have A4 := Aside0.mk A40
  clear A40
  obtain rfl := Option.some.inj H
  go_enter Try.func39, Try.ntmps39
  go_wp2_with (first | ((with_reducible refine gate_dst (N := 2) rfl ?_); refine be_ (N := 2) (cs := #[.slice A0_0 l0_0.length c0_0, .int .i64 a0_1]) (t := 46) (h := ?_); intro gb227 hg w5 hbox hb; have BK227 := Aside0.mk (hbox); have GW227 := gw_ HB hg; have GE227 := gw_ HB hg; replace HB := bs_ HB hb; clear hb hbox hg) | ((with_reducible refine gate_dst (N := 3) rfl ?_); refine be_ (N := 3) (cs := #[.slice A1_0 l1_0.length c1_0, .int .i64 a1_1]) (t := 46) (h := ?_); intro gb228 hg w6 hbox hb; have BK228 := Aside0.mk (hbox); have GW228 := gw_ HB hg; have GE228 := gw_ HB hg; have NB227_228 := ne_ BK227 hg; have NB228_227 := en_ BK227 hg; replace BK227 := bb_ BK227 hb; replace HB := bs_ HB hb; clear hb hbox hg; have hnb7 := NB227_228.out; have hnc7 := NB228_227.out; obtain ⟨hcz8_0, hcz8_1, hfz8_0, hfz8_1⟩ := bc2_ BK227; obtain ⟨hcz9_0, hcz9_1, hfz9_0, hfz9_1⟩ := bc2_ BK228) | (go_at_call 83; (with_reducible refine (api_Node_83.calls k _ _ l0_0 _ _ l1_0 t229 _ ?side1 ?side2 ?side3 ?side4 A4.out).mono ?_); (case side1 => exact cw_ (Kd.C_below HR0_0.out HB.out)); (case side2 => exact HC0_0.out); (case side3 => exact cw_ (Kd.C_below HR1_0.out HB.out)); (case side4 => exact HC1_0.out); rintro e w' ⟨rfl, ⟨nd, rfl⟩⟩))
  go_ret
  exact ⟨er_, hb_ HB⟩
 ·rw [if_neg c3] at H
  have c3b0 : (a0_1 == a1_1) = false := beq_eq_false_iff_ne.mpr c3
  have c3b1 : (a0_1 != a1_1) = true := bne_iff_ne.mpr c3
  obtain rfl := Option.some.inj H
  go_enter Try.func39, Try.ntmps39
  go_wp2_with (first | ((with_reducible refine gate_dst (N := 2) rfl ?_); refine be_ (N := 2) (cs := #[.slice A0_0 l0_0.length c0_0, .int .i64 a0_1]) (t := 46) (h := ?_); intro gb227 hg w10 hbox hb; have BK227 := Aside0.mk (hbox); have GW227 := gw_ HB hg; have GE227 := gw_ HB hg; replace HB := bs_ HB hb; clear hb hbox hg) | ((with_reducible refine gate_dst (N := 3) rfl ?_); refine be_ (N := 3) (cs := #[.slice A1_0 l1_0.length c1_0, .int .i64 a1_1]) (t := 46) (h := ?_); intro gb228 hg w11 hbox hb; have BK228 := Aside0.mk (hbox); have GW228 := gw_ HB hg; have GE228 := gw_ HB hg; have NB227_228 := ne_ BK227 hg; have NB228_227 := en_ BK227 hg; replace BK227 := bb_ BK227 hb; replace HB := bs_ HB hb; clear hb hbox hg; have hnb12 := NB227_228.out; have hnc12 := NB228_227.out; obtain ⟨hcz13_0, hcz13_1, hfz13_0, hfz13_1⟩ := bc2_ BK227; obtain ⟨hcz14_0, hcz14_1, hfz14_0, hfz14_1⟩ := bc2_ BK228))
  go_ret
  exact ⟨er_, hb_ HB⟩

/-! ### tree_Redo: function 44 -/
def tree_Redo.f (k : Nat) (l0_0 : List (S69)) (a0_1 : Int) : Option ((List (S69)) × Int × Int × Bool) := (tree_open.f k l0_0 a0_1).bind fun bt232 => (if bt232.2.2 = true then (if 0 ≤ bt232.2.1 then (if bt232.2.1 < (bt232.1.length : Int) then ((tree_step.f bt232.1 bt232.2.1 bt232.2.2 ((rd_T69 bt232.1 bt232.2.1).f1) ((rd_T69 bt232.1 bt232.2.1).f1)).bind fun bt239 => (some (bt239.1, bt239.2.1, bt239.2.2.1, bt239.2.2.2))) else (none)) else (none)) else (some (([] : List (S69)), 0, 0, false)))
theorem tree_Redo.mono : ∀ a0 a1 k, LeO (tree_Redo.f k a0 a1) (tree_Redo.f (k + 1) a0 a1) := by
 intro a0 a1 k
 unfold tree_Redo.f
 repeat' first
   | (with_reducible exact tree_open.mono _ _ _)
   | (with_reducible exact LeO.refl _)
   | (with_reducible exact LeO.none _)
   | (with_reducible refine LeO.ite ?_ ?_)
   | (with_reducible refine LeO.bind ?_ (fun _ => ?_))
   | exact tree_open.mono _ _ _
   | exact LeO.none _
   | refine LeO.ite ?_ ?_
   | refine LeO.bind ?_ (fun _ => ?_)
set_option maxHeartbeats 8000000 in
set_option maxRecDepth 100000 in
theorem tree_Redo.calls (k : Nat) (A0_0 : Option Addr) (c0_0 : Nat) (l0_0 : List (S69)) (a0_1 : Int) (r1 : List (S69)) (r2 : Int) (r3 : Int) (r4 : Bool) (w : World) (hr0_0 : Kd.C k69 w A0_0 l0_0.length l0_0) (hc0_0 : l0_0.length ≤ c0_0) (h : tree_Redo.f k l0_0 a0_1 = some (r1, r2, r3, r4)) :
  Calls Try.prog 44 #[.agg #[.slice A0_0 l0_0.length c0_0, .int .i64 a0_1]] w fun e w' => ∃ v0_ : Value, e = .returned (.tuple #[.agg #[v0_, .int .i64 r2], .int .i64 r3, .bool r4]) ∧ Kd.R k69 69 w' w.heap.size (fun _ => True) v0_ r1 ∧ Below w.heap.size w w' := by
 have hu46 := Try.underlying46
 have hu104 := Try.underlying104
 have HR0_0 := Aside0.mk hr0_0
 have HC0_0 := Aside0.mk hc0_0
 clear hr0_0 hc0_0
 have HB := Aside0.mk (Below.refl w.heap.size w)
 have H : ((tree_open.f k l0_0 a0_1).bind fun bt232 => (if bt232.2.2 = true then (if 0 ≤ bt232.2.1 then (if bt232.2.1 < (bt232.1.length : Int) then ((tree_step.f bt232.1 bt232.2.1 bt232.2.2 ((rd_T69 bt232.1 bt232.2.1).f1) ((rd_T69 bt232.1 bt232.2.1).f1)).bind fun bt239 => (some (bt239.1, bt239.2.1, bt239.2.2.1, bt239.2.2.2))) else (none)) else (none)) else (some (([] : List (S69)), 0, 0, false)))) = some (r1, r2, r3, r4) := h
 clear h
 replace H := Option.bind_eq_some_iff.mp H
 obtain ⟨⟨t232, t235, t236⟩, A20, H⟩ := H
 replace H : (if t236 = true then (if 0 ≤ t235 then (if t235 < (t232.length : Int) then ((tree_step.f t232 t235 t236 ((rd_T69 t232 t235).f1) ((rd_T69 t232 t235).f1)).bind fun bt239 => (some (bt239.1, bt239.2.1, bt239.2.2.1, bt239.2.2.2))) else (none)) else (none)) else (some (([] : List (S69)), 0, 0, false))) = some (r1, r2, r3, r4) := H
 have A2 := Aside0.mk A20
 clear A20
 by_cases c3 : t236 = true
 ·subst c3
  have H1 : (if 0 ≤ t235 then (if t235 < (t232.length : Int) then ((tree_step.f t232 t235 true ((rd_T69 t232 t235).f1) ((rd_T69 t232 t235).f1)).bind fun bt239 => (some (bt239.1, bt239.2.1, bt239.2.2.1, bt239.2.2.2))) else (none)) else (none)) = some (r1, r2, r3, r4) := by rw [if_pos rfl] at H; exact H
  clear H
  have H := H1
  clear H1
  by_cases c4 : 0 ≤ t235
  ·rw [if_pos c4] at H
   have c4b0 : decide (0 ≤ t235) = true := decide_eq_true c4
   clear c4
   by_cases c5 : t235 < (t232.length : Int)
   ·rw [if_pos c5] at H
    have c5b0 : decide (t235 < (t232.length : Int)) = true := decide_eq_true c5
    clear c5
    replace H := Option.bind_eq_some_iff.mp H
    obtain ⟨⟨t239, t242, t243, t244⟩, A60, H⟩ := H
    replace H : (some (t239, t242, t243, t244)) = some (r1, r2, r3, r4) := H
    have A6 := Aside0.mk A60
    clear A60
    simp only [Option.some.injEq, Prod.mk.injEq] at H
    obtain ⟨rfl, rfl, rfl, rfl⟩ := H
    go_enter Try.func44, Try.ntmps44
    go_wp2_with (first | ((with_reducible refine gate_dst (N := 1) rfl ?_); refine be_ (N := 1) (cs := #[.slice A0_0 l0_0.length c0_0, .int .i64 a0_1]) (t := 46) (h := ?_); intro gb230 hg w7 hbox hb; have BK230 := Aside0.mk (hbox); have GW230 := gw_ HB hg; have GE230 := gw_ HB hg; replace HB := bs_ HB hb; clear hb hbox hg) | ((with_reducible refine gate_dst (N := 2) rfl ?_); refine be_ (N := 2) (cs := #[.slice none 0 0, .int .i64 0]) (t := 46) (h := ?_); intro gb231 hg w8 hbox hb; have BK231 := Aside0.mk (hbox); have GW231 := gw_ HB hg; have GE231 := gw_ HB hg; have NB230_231 := ne_ BK230 hg; have NB231_230 := en_ BK230 hg; replace BK230 := bb_ BK230 hb; replace HB := bs_ HB hb; clear hb hbox hg; have hnb9 := NB230_231.out; have hnc9 := NB231_230.out; obtain ⟨hcz10_0, hcz10_1, hfz10_0, hfz10_1⟩ := bc2_ BK230) | ((with_reducible refine gate_callee (f := 79) rfl ?_); refine ge_ (some 8) rfl rfl Try.func79 (by kernel_rfl) rfl #[.agg #[.slice A0_0 l0_0.length c0_0, .int .i64 a0_1]] rfl (h := ?_); (with_reducible refine (tree_open.calls k (fun k_ => k_ < w.heap.size) _ _ l0_0 a0_1 t232 t235 true _ ?side1 A2.out).mono ?_); (case side1 => exact Kd.V_mk HC0_0.out (Kd.F_below (Kd.C_F k69_heap HR0_0.out) (hb_ HB))); rintro e w11 ⟨v233, rfl, ho0, hb⟩; refine ⟨_, rfl, ?_⟩; have HO234 := Aside0.mk (Kd.V_lower (Kd.V_mono (ok' := fun k_ => k_ ≠ gb230 ∧ k_ ≠ gb231) ho0 (fun k_ hk_ => ⟨Or.elim hk_ (fun hs_ => fun e_ => Nat.not_le.2 hs_ (by rw [e_]; exact GW230.out)) (fun hn_ => (Kd.freshB (g := gb230) (o := .cells #[.slice A0_0 l0_0.length c0_0, .int .i64 a0_1] 46 (0, 0)) (bw_ BK230.out) k_ hn_)), Or.elim hk_ (fun hs_ => fun e_ => Nat.not_le.2 hs_ (by rw [e_]; exact GW231.out)) (fun hn_ => (Kd.freshB (g := gb231) (o := .cells #[.slice none 0 0, .int .i64 0] 46 (0, 0)) (bw_ BK231.out) k_ hn_))⟩)) (below_size (hb_ HB))); replace BK230 := bb_ BK230 hb; replace BK231 := bb_ BK231 hb; replace HB := bs_ HB hb; (try clear hb); (try clear hb2); (try clear hk); (try clear hi); (try clear ho0)) | ((with_reducible refine gate_dst (N := 5) rfl ?_); refine be_ (N := 5) (cs := #[.slice none 0 0, .int .i64 0, .bool false]) (t := 104) (h := ?_); intro gb237 hg w12 hbox hb; have BK237 := Aside0.mk (hbox); have GW237 := gw_ HB hg; have GE237 := gw_ HB hg; have NB230_237 := ne_ BK230 hg; have NB237_230 := en_ BK230 hg; have NB231_237 := ne_ BK231 hg; have NB237_231 := en_ BK231 hg; replace HO234 := Aside0.mk (Kd.V_below (Kd.V_elderB (vw_ HO234.out) gb237 (Nat.le_of_eq hg.symm)) hb); replace BK230 := bb_ BK230 hb; replace BK231 := bb_ BK231 hb; replace HB := bs_ HB hb; clear hb hbox hg; obtain ⟨Ao13, co13, eo13⟩ := Kd.V_slice HO234.out; subst eo13; have hnb14 := NB237_230.out; have hnc14 := NB230_237.out; have hnb15 := NB237_231.out; have hnc15 := NB231_237.out; obtain ⟨hcz16_0, hcz16_1, hcz16_2, hfz16_0, hfz16_1, hfz16_2⟩ := bc3_ BK237; have p238 : 0 ≤ (t235 : Int) := of_decide_eq_true as_; have q238 : t235 < (t232.length : Int) := of_decide_eq_true as_; obtain ⟨ad238, e238, hx238_0, hx238_1, hx238_2, hx238_3, hx238_4, hx238_5, hx238_6⟩ := at_T69 (Kd.V_reads' HO234.out).2.2 t235 p238 q238; cases e238; have hn238_0 : ad238.block ≠ gb237 := Kd.own_blk (Kd.V_ne HO234.out BK237.out (by decide)); have hn238_1 : ad238.block ≠ gb237 := Kd.own_blk (Kd.V_ne HO234.out BK237.out (by decide)); have hn238_2 : ad238.block ≠ gb237 := Kd.own_blk (Kd.V_ne HO234.out BK237.out (by decide)); replace hx238_0 := (cell_far (p := ⟨gb237, 0, none⟩) (by first | (rw [add_block]; exact hn238_0) | (show (Addr.add _ _).block ≠ _; rw [add_block]; exact hn238_0) | exact hn238_0) (.slice (some ad238) t232.length co13)).trans hx238_0; replace hx238_1 := (cell_far (p := ⟨gb237, 0, none⟩) (by first | (rw [add_block]; exact hn238_0) | (show (Addr.add _ _).block ≠ _; rw [add_block]; exact hn238_0) | exact hn238_0) (.slice (some ad238) t232.length co13)).trans hx238_1; replace hx238_2 := (cell_far (p := ⟨gb237, 0, none⟩) (by first | (rw [add_block]; exact hn238_0) | (show (Addr.add _ _).block ≠ _; rw [add_block]; exact hn238_0) | exact hn238_0) (.slice (some ad238) t232.length co13)).trans hx238_2; replace hx238_3 := (cell_far (p := ⟨gb237, 0, none⟩) (by first | (rw [add_block]; exact hn238_0) | (show (Addr.add _ _).block ≠ _; rw [add_block]; exact hn238_0) | exact hn238_0) (.slice (some ad238) t232.length co13)).trans hx238_3; replace hx238_4 := (cell_far (p := ⟨gb237, 0, none⟩) (by first | (rw [add_block]; exact hn238_0) | (show (Addr.add _ _).block ≠ _; rw [add_block]; exact hn238_0) | exact hn238_0) (.slice (some ad238) t232.length co13)).trans hx238_4; replace hx238_5 := (cell_far (p := ⟨gb237, 0, none⟩) (by first | (rw [add_block]; exact hn238_0) | (show (Addr.add _ _).block ≠ _; rw [add_block]; exact hn238_0) | exact hn238_0) (.slice (some ad238) t232.length co13)).trans hx238_5; replace hx238_6 := (cell_far (p := ⟨gb237, 0, none⟩) (by first | (rw [add_block]; exact hn238_0) | (show (Addr.add _ _).block ≠ _; rw [add_block]; exact hn238_0) | exact hn238_0) (.slice (some ad238) t232.length co13)).trans hx238_6; replace hx238_0 := (cell_far (p := ⟨gb237, 1, none⟩) (by first | (rw [add_block]; exact hn238_1) | (show (Addr.add _ _).block ≠ _; rw [add_block]; exact hn238_1) | exact hn238_1) (.int .i64 t235)).trans hx238_0; replace hx238_1 := (cell_far (p := ⟨gb237, 1, none⟩) (by first | (rw [add_block]; exact hn238_1) | (show (Addr.add _ _).block ≠ _; rw [add_block]; exact hn238_1) | exact hn238_1) (.int .i64 t235)).trans hx238_1; replace hx238_2 := (cell_far (p := ⟨gb237, 1, none⟩) (by first | (rw [add_block]; exact hn238_1) | (show (Addr.add _ _).block ≠ _; rw [add_block]; exact hn238_1) | exact hn238_1) (.int .i64 t235)).trans hx238_2; replace hx238_3 := (cell_far (p := ⟨gb237, 1, none⟩) (by first | (rw [add_block]; exact hn238_1) | (show (Addr.add _ _).block ≠ _; rw [add_block]; exact hn238_1) | exact hn238_1) (.int .i64 t235)).trans hx238_3; replace hx238_4 := (cell_far (p := ⟨gb237, 1, none⟩) (by first | (rw [add_block]; exact hn238_1) | (show (Addr.add _ _).block ≠ _; rw [add_block]; exact hn238_1) | exact hn238_1) (.int .i64 t235)).trans hx238_4; replace hx238_5 := (cell_far (p := ⟨gb237, 1, none⟩) (by first | (rw [add_block]; exact hn238_1) | (show (Addr.add _ _).block ≠ _; rw [add_block]; exact hn238_1) | exact hn238_1) (.int .i64 t235)).trans hx238_5; replace hx238_6 := (cell_far (p := ⟨gb237, 1, none⟩) (by first | (rw [add_block]; exact hn238_1) | (show (Addr.add _ _).block ≠ _; rw [add_block]; exact hn238_1) | exact hn238_1) (.int .i64 t235)).trans hx238_6; replace hx238_0 := (cell_far (p := ⟨gb237, 2, none⟩) (by first | (rw [add_block]; exact hn238_2) | (show (Addr.add _ _).block ≠ _; rw [add_block]; exact hn238_2) | exact hn238_2) (.bool true)).trans hx238_0; replace hx238_1 := (cell_far (p := ⟨gb237, 2, none⟩) (by first | (rw [add_block]; exact hn238_2) | (show (Addr.add _ _).block ≠ _; rw [add_block]; exact hn238_2) | exact hn238_2) (.bool true)).trans hx238_1; replace hx238_2 := (cell_far (p := ⟨gb237, 2, none⟩) (by first | (rw [add_block]; exact hn238_2) | (show (Addr.add _ _).block ≠ _; rw [add_block]; exact hn238_2) | exact hn238_2) (.bool true)).trans hx238_2; replace hx238_3 := (cell_far (p := ⟨gb237, 2, none⟩) (by first | (rw [add_block]; exact hn238_2) | (show (Addr.add _ _).block ≠ _; rw [add_block]; exact hn238_2) | exact hn238_2) (.bool true)).trans hx238_3; replace hx238_4 := (cell_far (p := ⟨gb237, 2, none⟩) (by first | (rw [add_block]; exact hn238_2) | (show (Addr.add _ _).block ≠ _; rw [add_block]; exact hn238_2) | exact hn238_2) (.bool true)).trans hx238_4; replace hx238_5 := (cell_far (p := ⟨gb237, 2, none⟩) (by first | (rw [add_block]; exact hn238_2) | (show (Addr.add _ _).block ≠ _; rw [add_block]; exact hn238_2) | exact hn238_2) (.bool true)).trans hx238_5; replace hx238_6 := (cell_far (p := ⟨gb237, 2, none⟩) (by first | (rw [add_block]; exact hn238_2) | (show (Addr.add _ _).block ≠ _; rw [add_block]; exact hn238_2) | exact hn238_2) (.bool true)).trans hx238_6; clear hn238_0; clear hn238_1; clear hn238_2; replace p238 := eq_true p238; replace q238 := eq_true q238) | ((with_reducible refine gate_callee (f := 84) rfl ?_); refine ge_ (some 27) rfl rfl Try.func84 (by kernel_rfl) rfl #[.agg #[.slice (some ad238) t232.length co13, .int .i64 t235, .bool true], .int .i64 ((rd_T69 t232 t235).f1), .int .i64 ((rd_T69 t232 t235).f1)] rfl (h := ?_); (with_reducible refine (tree_step.calls _ _ t232 t235 true ((rd_T69 t232 t235).f1) ((rd_T69 t232 t235).f1) t239 t242 t243 t244 _ ?side1 ?side2 A6.out).mono ?_); (case side1 => refine (Kd.V_reads' (e := 69) (base := w.heap.size) (ok := fun k_ => ((k_ ≠ gb230 ∧ k_ ≠ gb231) ∧ k_ ≠ gb237)) (n := t232.length) (c := co13) ?_).2.2; exact (by (with_reducible repeat (first | apply Kd.V_alloc | apply Kd.V_drewN | apply Kd.V_drew)); exact (Kd.V_mono (vf_ (Kd.V_mono HO234.out (fun k_ hk => (⟨hk, hk.2⟩ : _ ∧ k_ ≠ gb237))) (fun _ hk => hk.2)) (fun _ h_ => h_.1)))); (case side2 => exact (Kd.V_reads' HO234.out).2.1); rintro e w17 ⟨v240, rfl, ho0, hb⟩; refine ⟨_, rfl, ?_⟩; have HO241 := Aside0.mk (Kd.R_lower ho0 (below_size (hb_ HB))); replace HO234 := Aside0.mk (Kd.V_elder' (by (with_reducible repeat (first | apply Kd.V_alloc | apply Kd.V_drewN | apply Kd.V_drew)); exact (Kd.V_mono (vf_ (Kd.V_mono HO234.out (fun k_ hk => (⟨hk, hk.2⟩ : _ ∧ k_ ≠ gb237))) (fun _ hk => hk.2)) (fun _ h_ => h_.1))) (Kd.R_base ho0) hb); replace BK230 := Aside0.mk (blk_below (g := gb230) (o := .cells #[.slice A0_0 l0_0.length c0_0, .int .i64 a0_1] 46 (0, 0)) (bp_ BK230.out) hb); replace BK231 := Aside0.mk (blk_below (g := gb231) (o := .cells #[.slice none 0 0, .int .i64 0] 46 (0, 0)) (bp_ BK231.out) hb); replace BK237 := Aside0.mk (blk_below (g := gb237) (o := .cells #[.slice (some ad238) t232.length co13, .int .i64 t235, .bool true] 104 (0, 0)) (bp_ BK237.out) hb); replace HB := bs_ HB hb; (try clear hb); (try clear hb2); (try clear hk); (try clear hi); (try clear ho0); obtain ⟨Ao18, co18, eo18⟩ := Kd.R_slice HO241.out; subst eo18; obtain ⟨hcz19_0, hcz19_1, hfz19_0, hfz19_1⟩ := bc2_ BK231))
    refine bodyPost_ret (results_ctt rfl _ _ gb231 46 #[.slice Ao18 t239.length co18, .int .i64 t242] (0, 0) _ rfl (bp_ BK231.out) Try.underlying46 rfl (by kernel_rfl)) rfl ?_
    exact ⟨_, er_, by (with_reducible repeat (first | apply Kd.R_alloc | apply Kd.R_drewN | apply Kd.R_drew)); exact Kd.R_mono (rf_ (Kd.R_types HO241.out BK231.out (by decide)) (fun _ hk => hk.2)) (fun _ hk => trivial), hb_ HB⟩
   ·rw [if_neg c5] at H
    exact absurd H (by simp)
  ·rw [if_neg c4] at H
   exact absurd H (by simp)
 ·replace c3 := Bool.eq_false_iff.mpr c3
  subst c3
  have H1 : (some (([] : List (S69)), 0, 0, false)) = some (r1, r2, r3, r4) := by rw [if_neg (show ¬ (false = true) by decide)] at H; exact H
  clear H
  have H := H1
  clear H1
  simp only [Option.some.injEq, Prod.mk.injEq] at H
  obtain ⟨rfl, rfl, rfl, rfl⟩ := H
  go_enter Try.func44, Try.ntmps44
  go_wp2_with (first | ((with_reducible refine gate_dst (N := 1) rfl ?_); refine be_ (N := 1) (cs := #[.slice A0_0 l0_0.length c0_0, .int .i64 a0_1]) (t := 46) (h := ?_); intro gb230 hg w20 hbox hb; have BK230 := Aside0.mk (hbox); have GW230 := gw_ HB hg; have GE230 := gw_ HB hg; replace HB := bs_ HB hb; clear hb hbox hg) | ((with_reducible refine gate_dst (N := 2) rfl ?_); refine be_ (N := 2) (cs := #[.slice none 0 0, .int .i64 0]) (t := 46) (h := ?_); intro gb231 hg w21 hbox hb; have BK231 := Aside0.mk (hbox); have GW231 := gw_ HB hg; have GE231 := gw_ HB hg; have NB230_231 := ne_ BK230 hg; have NB231_230 := en_ BK230 hg; replace BK230 := bb_ BK230 hb; replace HB := bs_ HB hb; clear hb hbox hg; have hnb22 := NB230_231.out; have hnc22 := NB231_230.out; obtain ⟨hcz23_0, hcz23_1, hfz23_0, hfz23_1⟩ := bc2_ BK230) | ((with_reducible refine gate_callee (f := 79) rfl ?_); refine ge_ (some 8) rfl rfl Try.func79 (by kernel_rfl) rfl #[.agg #[.slice A0_0 l0_0.length c0_0, .int .i64 a0_1]] rfl (h := ?_); (with_reducible refine (tree_open.calls k (fun k_ => k_ < w.heap.size) _ _ l0_0 a0_1 t232 t235 false _ ?side1 A2.out).mono ?_); (case side1 => exact Kd.V_mk HC0_0.out (Kd.F_below (Kd.C_F k69_heap HR0_0.out) (hb_ HB))); rintro e w24 ⟨v233, rfl, ho0, hb⟩; refine ⟨_, rfl, ?_⟩; have HO234 := Aside0.mk (Kd.V_lower (Kd.V_mono (ok' := fun k_ => k_ ≠ gb230 ∧ k_ ≠ gb231) ho0 (fun k_ hk_ => ⟨Or.elim hk_ (fun hs_ => fun e_ => Nat.not_le.2 hs_ (by rw [e_]; exact GW230.out)) (fun hn_ => (Kd.freshB (g := gb230) (o := .cells #[.slice A0_0 l0_0.length c0_0, .int .i64 a0_1] 46 (0, 0)) (bw_ BK230.out) k_ hn_)), Or.elim hk_ (fun hs_ => fun e_ => Nat.not_le.2 hs_ (by rw [e_]; exact GW231.out)) (fun hn_ => (Kd.freshB (g := gb231) (o := .cells #[.slice none 0 0, .int .i64 0] 46 (0, 0)) (bw_ BK231.out) k_ hn_))⟩)) (below_size (hb_ HB))); replace BK230 := bb_ BK230 hb; replace BK231 := bb_ BK231 hb; replace HB := bs_ HB hb; (try clear hb); (try clear hb2); (try clear hk); (try clear hi); (try clear ho0)) | ((with_reducible refine gate_dst (N := 5) rfl ?_); refine be_ (N := 5) (cs := #[.slice none 0 0, .int .i64 0, .bool false]) (t := 104) (h := ?_); intro gb237 hg w25 hbox hb; have BK237 := Aside0.mk (hbox); have GW237 := gw_ HB hg; have GE237 := gw_ HB hg; have NB230_237 := ne_ BK230 hg; have NB237_230 := en_ BK230 hg; have NB231_237 := ne_ BK231 hg; have NB237_231 := en_ BK231 hg; replace HO234 := Aside0.mk (Kd.V_below (Kd.V_elderB (vw_ HO234.out) gb237 (Nat.le_of_eq hg.symm)) hb); replace BK230 := bb_ BK230 hb; replace BK231 := bb_ BK231 hb; replace HB := bs_ HB hb; clear hb hbox hg; obtain ⟨Ao26, co26, eo26⟩ := Kd.V_slice HO234.out; subst eo26; have hnb27 := NB237_230.out; have hnc27 := NB230_237.out; have hnb28 := NB237_231.out; have hnc28 := NB231_237.out; obtain ⟨hcz29_0, hcz29_1, hcz29_2, hfz29_0, hfz29_1, hfz29_2⟩ := bc3_ BK237; obtain ⟨hcz30_0, hcz30_1, hfz30_0, hfz30_1⟩ := bc2_ BK231))
  refine bodyPost_ret (results_ctt rfl _ _ gb231 46 #[.slice none 0 0, .int .i64 0] (0, 0) _ rfl (bp_ BK231.out) Try.underlying46 rfl (by kernel_rfl)) rfl ?_
  exact ⟨_, er_, by first | exact Kd.R_nil _ _ _ _ _ | exact Kd.N_nil _ _ _ _ _ | exact Kd.V_nil _ _ _ _ _ | exact Kd.Q_nil _ _ _ _ _ | exact Kd.S_nil _ _ _ _ _, hb_ HB⟩

/-! ### tree_Choose: function 49 -/
def tree_Choose.f (k : Nat) (l0_0 : List (S69)) (a0_1 : Int) (a1 : Int) : Option ((List (S69)) × Int × Int) := (tree_open.f k l0_0 a0_1).bind fun bt247 => (if bt247.2.2 = true then ((tree_book_has.f bt247.1 bt247.2.1 a1).bind fun t253 => (if t253 = true then (if a1 = 0 then (some (([] : List (S69)), 0, 7)) else ((tree_book_copy.f bt247.1 bt247.2.1).bind fun bt254 => (if 0 ≤ a1 then (if a1 < (bt254.1.length : Int) then (if 0 ≤ ((rd_T69 bt254.1 a1).f0) then (if ((rd_T69 bt254.1 a1).f0) < (bt254.1.length : Int) then (some ((bt254.1.set (((rd_T69 bt254.1 a1).f0) : Int).toNat (⟨(rd_T69 bt254.1 ((rd_T69 bt254.1 a1).f0)).f0, a1, (rd_T69 bt254.1 ((rd_T69 bt254.1 a1).f0)).f2, (rd_T69 bt254.1 ((rd_T69 bt254.1 a1).f0)).f3, (⟨(rd_T69 bt254.1 ((rd_T69 bt254.1 a1).f0)).f4.f0, (rd_T69 bt254.1 ((rd_T69 bt254.1 a1).f0)).f4.f1, (rd_T69 bt254.1 ((rd_T69 bt254.1 a1).f0)).f4.f2⟩ : S24)⟩ : S69)), bt254.2, 0)) else (none)) else (none)) else (none)) else (none)))) else (some (([] : List (S69)), 0, 7)))) else (some (([] : List (S69)), 0, 1)))
theorem tree_Choose.mono : ∀ a0 a1 a2 k, LeO (tree_Choose.f k a0 a1 a2) (tree_Choose.f (k + 1) a0 a1 a2) := by
 intro a0 a1 a2 k
 unfold tree_Choose.f
 repeat' first
   | (with_reducible exact tree_open.mono _ _ _)
   | (with_reducible exact LeO.refl _)
   | (with_reducible exact LeO.none _)
   | (with_reducible refine LeO.ite ?_ ?_)
   | (with_reducible refine LeO.bind ?_ (fun _ => ?_))
   | exact tree_open.mono _ _ _
   | exact LeO.none _
   | refine LeO.ite ?_ ?_
   | refine LeO.bind ?_ (fun _ => ?_)
def tree_Choose.T7 : Bool × List (List Nat × List Nat) := (true, [([], []), ([0], [0]), ([1], [1]), ([], []), ([3], [3]), ([4], [4]), ([], []), ([5, 6], [5, 6]), ([7], [7]), ([8], [8]), ([], []), ([2, 9, 0, 1, 2, 3, 4, 5, 6, 7, 8, 9, 10], [2, 9]), ([11, 0, 1, 2, 3, 4, 5, 6, 7, 8, 9, 10], [11]), ([12, 10, 0, 1, 2, 3, 4, 5, 6, 7, 8, 9, 10], [10, 12])])
def tree_Choose.B7 : List Nat := [0, 1, 3, 0, 8, 24, 0, 120, 248, 504, 0, 2047, 4095, 8191]
theorem tree_Choose.tab7 : rtab .any (opsOf Try.f49 7) = tree_Choose.T7 := by kernel_rfl
theorem tree_Choose.bits7 : waitsOk tree_Choose.T7.2 tree_Choose.B7 = true := by kernel_rfl
set_option maxHeartbeats 8000000 in
set_option maxRecDepth 100000 in
theorem tree_Choose.calls (k : Nat) (A0_0 : Option Addr) (c0_0 : Nat) (l0_0 : List (S69)) (a0_1 : Int) (a1 : Int) (r1 : List (S69)) (r2 : Int) (r3 : Int) (w : World) (hr0_0 : Kd.C k69 w A0_0 l0_0.length l0_0) (hc0_0 : l0_0.length ≤ c0_0) (h : tree_Choose.f k l0_0 a0_1 a1 = some (r1, r2, r3)) :
  Calls Try.prog 49 #[.agg #[.slice A0_0 l0_0.length c0_0, .int .i64 a0_1], .int .i64 a1] w fun e w' => ∃ v0_ : Value, e = .returned (.tuple #[.agg #[v0_, .int .i64 r2], .int .i64 r3]) ∧ Kd.R k69 69 w' w.heap.size (fun _ => True) v0_ r1 ∧ Below w.heap.size w w' := by
 have hu46 := Try.underlying46
 have hu104 := Try.underlying104
 have hu102 := Try.underlying102
 have HR0_0 := Aside0.mk hr0_0
 have HC0_0 := Aside0.mk hc0_0
 clear hr0_0 hc0_0
 have HB := Aside0.mk (Below.refl w.heap.size w)
 have H : ((tree_open.f k l0_0 a0_1).bind fun bt247 => (if bt247.2.2 = true then ((tree_book_has.f bt247.1 bt247.2.1 a1).bind fun t253 => (if t253 = true then (if a1 = 0 then (some (([] : List (S69)), 0, 7)) else ((tree_book_copy.f bt247.1 bt247.2.1).bind fun bt254 => (if 0 ≤ a1 then (if a1 < (bt254.1.length : Int) then (if 0 ≤ ((rd_T69 bt254.1 a1).f0) then (if ((rd_T69 bt254.1 a1).f0) < (bt254.1.length : Int) then (some ((bt254.1.set (((rd_T69 bt254.1 a1).f0) : Int).toNat (⟨(rd_T69 bt254.1 ((rd_T69 bt254.1 a1).f0)).f0, a1, (rd_T69 bt254.1 ((rd_T69 bt254.1 a1).f0)).f2, (rd_T69 bt254.1 ((rd_T69 bt254.1 a1).f0)).f3, (⟨(rd_T69 bt254.1 ((rd_T69 bt254.1 a1).f0)).f4.f0, (rd_T69 bt254.1 ((rd_T69 bt254.1 a1).f0)).f4.f1, (rd_T69 bt254.1 ((rd_T69 bt254.1 a1).f0)).f4.f2⟩ : S24)⟩ : S69)), bt254.2, 0)) else (none)) else (none)) else (none)) else (none)))) else (some (([] : List (S69)), 0, 7)))) else (some (([] : List (S69)), 0, 1)))) = some (r1, r2, r3) := h
 clear h
 replace H := Option.bind_eq_some_iff.mp H
 obtain ⟨⟨t247, t250, t251⟩, A30, H⟩ := H
 replace H : (if t251 = true then ((tree_book_has.f t247 t250 a1).bind fun t253 => (if t253 = true then (if a1 = 0 then (some (([] : List (S69)), 0, 7)) else ((tree_book_copy.f t247 t250).bind fun bt254 => (if 0 ≤ a1 then (if a1 < (bt254.1.length : Int) then (if 0 ≤ ((rd_T69 bt254.1 a1).f0) then (if ((rd_T69 bt254.1 a1).f0) < (bt254.1.length : Int) then (some ((bt254.1.set (((rd_T69 bt254.1 a1).f0) : Int).toNat (⟨(rd_T69 bt254.1 ((rd_T69 bt254.1 a1).f0)).f0, a1, (rd_T69 bt254.1 ((rd_T69 bt254.1 a1).f0)).f2, (rd_T69 bt254.1 ((rd_T69 bt254.1 a1).f0)).f3, (⟨(rd_T69 bt254.1 ((rd_T69 bt254.1 a1).f0)).f4.f0, (rd_T69 bt254.1 ((rd_T69 bt254.1 a1).f0)).f4.f1, (rd_T69 bt254.1 ((rd_T69 bt254.1 a1).f0)).f4.f2⟩ : S24)⟩ : S69)), bt254.2, 0)) else (none)) else (none)) else (none)) else (none)))) else (some (([] : List (S69)), 0, 7)))) else (some (([] : List (S69)), 0, 1))) = some (r1, r2, r3) := H
 have A3 := Aside0.mk A30
 clear A30
 by_cases c4 : t251 = true
 ·subst c4
  have H1 : ((tree_book_has.f t247 t250 a1).bind fun t253 => (if t253 = true then (if a1 = 0 then (some (([] : List (S69)), 0, 7)) else ((tree_book_copy.f t247 t250).bind fun bt254 => (if 0 ≤ a1 then (if a1 < (bt254.1.length : Int) then (if 0 ≤ ((rd_T69 bt254.1 a1).f0) then (if ((rd_T69 bt254.1 a1).f0) < (bt254.1.length : Int) then (some ((bt254.1.set (((rd_T69 bt254.1 a1).f0) : Int).toNat (⟨(rd_T69 bt254.1 ((rd_T69 bt254.1 a1).f0)).f0, a1, (rd_T69 bt254.1 ((rd_T69 bt254.1 a1).f0)).f2, (rd_T69 bt254.1 ((rd_T69 bt254.1 a1).f0)).f3, (⟨(rd_T69 bt254.1 ((rd_T69 bt254.1 a1).f0)).f4.f0, (rd_T69 bt254.1 ((rd_T69 bt254.1 a1).f0)).f4.f1, (rd_T69 bt254.1 ((rd_T69 bt254.1 a1).f0)).f4.f2⟩ : S24)⟩ : S69)), bt254.2, 0)) else (none)) else (none)) else (none)) else (none)))) else (some (([] : List (S69)), 0, 7)))) = some (r1, r2, r3) := by rw [if_pos rfl] at H; exact H
  clear H
  have H := H1
  clear H1
  replace H := Option.bind_eq_some_iff.mp H
  obtain ⟨t253, A50, H⟩ := H
  replace H : (if t253 = true then (if a1 = 0 then (some (([] : List (S69)), 0, 7)) else ((tree_book_copy.f t247 t250).bind fun bt254 => (if 0 ≤ a1 then (if a1 < (bt254.1.length : Int) then (if 0 ≤ ((rd_T69 bt254.1 a1).f0) then (if ((rd_T69 bt254.1 a1).f0) < (bt254.1.length : Int) then (some ((bt254.1.set (((rd_T69 bt254.1 a1).f0) : Int).toNat (⟨(rd_T69 bt254.1 ((rd_T69 bt254.1 a1).f0)).f0, a1, (rd_T69 bt254.1 ((rd_T69 bt254.1 a1).f0)).f2, (rd_T69 bt254.1 ((rd_T69 bt254.1 a1).f0)).f3, (⟨(rd_T69 bt254.1 ((rd_T69 bt254.1 a1).f0)).f4.f0, (rd_T69 bt254.1 ((rd_T69 bt254.1 a1).f0)).f4.f1, (rd_T69 bt254.1 ((rd_T69 bt254.1 a1).f0)).f4.f2⟩ : S24)⟩ : S69)), bt254.2, 0)) else (none)) else (none)) else (none)) else (none)))) else (some (([] : List (S69)), 0, 7))) = some (r1, r2, r3) := H
  have A5 := Aside0.mk A50
  clear A50
  by_cases c6 : t253 = true
  ·subst c6
   have H1 : (if a1 = 0 then (some (([] : List (S69)), 0, 7)) else ((tree_book_copy.f t247 t250).bind fun bt254 => (if 0 ≤ a1 then (if a1 < (bt254.1.length : Int) then (if 0 ≤ ((rd_T69 bt254.1 a1).f0) then (if ((rd_T69 bt254.1 a1).f0) < (bt254.1.length : Int) then (some ((bt254.1.set (((rd_T69 bt254.1 a1).f0) : Int).toNat (⟨(rd_T69 bt254.1 ((rd_T69 bt254.1 a1).f0)).f0, a1, (rd_T69 bt254.1 ((rd_T69 bt254.1 a1).f0)).f2, (rd_T69 bt254.1 ((rd_T69 bt254.1 a1).f0)).f3, (⟨(rd_T69 bt254.1 ((rd_T69 bt254.1 a1).f0)).f4.f0, (rd_T69 bt254.1 ((rd_T69 bt254.1 a1).f0)).f4.f1, (rd_T69 bt254.1 ((rd_T69 bt254.1 a1).f0)).f4.f2⟩ : S24)⟩ : S69)), bt254.2, 0)) else (none)) else (none)) else (none)) else (none)))) = some (r1, r2, r3) := by rw [if_pos rfl] at H; exact H
   clear H
   have H := H1
   clear H1
   by_cases c7 : a1 = 0
   ·rw [if_pos c7] at H
    have c7b0 : (a1 == 0) = true := beq_iff_eq.mpr c7
    have c7b1 : (a1 != 0) = false := bne_eq_false_iff_eq.mpr c7
    clear c7
    simp only [Option.some.injEq, Prod.mk.injEq] at H
    obtain ⟨rfl, rfl, rfl⟩ := H
    go_enter Try.func49, Try.ntmps49
    go_wp2_with (first | ((with_reducible refine gate_dst (N := 2) rfl ?_); refine be_ (N := 2) (cs := #[.slice A0_0 l0_0.length c0_0, .int .i64 a0_1]) (t := 46) (h := ?_); intro gb245 hg w8 hbox hb; have BK245 := Aside0.mk (hbox); have GW245 := gw_ HB hg; have GE245 := gw_ HB hg; replace HB := bs_ HB hb; clear hb hbox hg) | ((with_reducible refine gate_dst (N := 4) rfl ?_); refine be_ (N := 4) (cs := #[.slice none 0 0, .int .i64 0]) (t := 46) (h := ?_); intro gb246 hg w9 hbox hb; have BK246 := Aside0.mk (hbox); have GW246 := gw_ HB hg; have GE246 := gw_ HB hg; have NB245_246 := ne_ BK245 hg; have NB246_245 := en_ BK245 hg; replace BK245 := bb_ BK245 hb; replace HB := bs_ HB hb; clear hb hbox hg; have hnb10 := NB245_246.out; have hnc10 := NB246_245.out; obtain ⟨hcz11_0, hcz11_1, hfz11_0, hfz11_1⟩ := bc2_ BK245) | ((with_reducible refine gate_callee (f := 79) rfl ?_); refine ge_ (some 9) rfl rfl Try.func79 (by kernel_rfl) rfl #[.agg #[.slice A0_0 l0_0.length c0_0, .int .i64 a0_1]] rfl (h := ?_); (with_reducible refine (tree_open.calls k (fun k_ => k_ < w.heap.size) _ _ l0_0 a0_1 t247 t250 true _ ?side1 A3.out).mono ?_); (case side1 => exact Kd.V_mk HC0_0.out (Kd.F_below (Kd.C_F k69_heap HR0_0.out) (hb_ HB))); rintro e w12 ⟨v248, rfl, ho0, hb⟩; refine ⟨_, rfl, ?_⟩; have HO249 := Aside0.mk (Kd.V_lower (Kd.V_mono (ok' := fun k_ => k_ ≠ gb245 ∧ k_ ≠ gb246) ho0 (fun k_ hk_ => ⟨Or.elim hk_ (fun hs_ => fun e_ => Nat.not_le.2 hs_ (by rw [e_]; exact GW245.out)) (fun hn_ => (Kd.freshB (g := gb245) (o := .cells #[.slice A0_0 l0_0.length c0_0, .int .i64 a0_1] 46 (0, 0)) (bw_ BK245.out) k_ hn_)), Or.elim hk_ (fun hs_ => fun e_ => Nat.not_le.2 hs_ (by rw [e_]; exact GW246.out)) (fun hn_ => (Kd.freshB (g := gb246) (o := .cells #[.slice none 0 0, .int .i64 0] 46 (0, 0)) (bw_ BK246.out) k_ hn_))⟩)) (below_size (hb_ HB))); replace BK245 := bb_ BK245 hb; replace BK246 := bb_ BK246 hb; replace HB := bs_ HB hb; (try clear hb); (try clear hb2); (try clear hk); (try clear hi); (try clear ho0)) | ((with_reducible refine gate_dst (N := 6) rfl ?_); refine be_ (N := 6) (cs := #[.slice none 0 0, .int .i64 0, .bool false]) (t := 104) (h := ?_); intro gb252 hg w13 hbox hb; have BK252 := Aside0.mk (hbox); have GW252 := gw_ HB hg; have GE252 := gw_ HB hg; have NB245_252 := ne_ BK245 hg; have NB252_245 := en_ BK245 hg; have NB246_252 := ne_ BK246 hg; have NB252_246 := en_ BK246 hg; replace HO249 := Aside0.mk (Kd.V_below (Kd.V_elderB (vw_ HO249.out) gb252 (Nat.le_of_eq hg.symm)) hb); replace BK245 := bb_ BK245 hb; replace BK246 := bb_ BK246 hb; replace HB := bs_ HB hb; clear hb hbox hg; obtain ⟨Ao14, co14, eo14⟩ := Kd.V_slice HO249.out; subst eo14; have hnb15 := NB252_245.out; have hnc15 := NB245_252.out; have hnb16 := NB252_246.out; have hnc16 := NB246_252.out; obtain ⟨hcz17_0, hcz17_1, hcz17_2, hfz17_0, hfz17_1, hfz17_2⟩ := bc3_ BK252) | ((with_reducible refine gate_callee (f := 85) rfl ?_); refine ge_ (some 17) rfl rfl Try.func85 (by kernel_rfl) rfl #[.agg #[.slice Ao14 t247.length co14, .int .i64 t250], .int .i64 a1] rfl (h := ?_); (with_reducible refine (tree_book_has.calls _ _ t247 t250 a1 true _ ?side1 ?side2 A5.out).mono ?_); (case side1 => refine (Kd.V_reads' (e := 69) (base := w.heap.size) (ok := fun k_ => ((k_ ≠ gb245 ∧ k_ ≠ gb246) ∧ k_ ≠ gb252)) (n := t247.length) (c := co14) ?_).2.2; exact (by (with_reducible repeat (first | apply Kd.V_alloc | apply Kd.V_drewN | apply Kd.V_drew)); exact (Kd.V_mono (vf_ (Kd.V_mono HO249.out (fun k_ hk => (⟨hk, hk.2⟩ : _ ∧ k_ ≠ gb252))) (fun _ hk => hk.2)) (fun _ h_ => h_.1)))); (case side2 => exact (Kd.V_reads' HO249.out).2.1); rintro e w18 ⟨rfl, hb⟩; refine ⟨_, rfl, ?_⟩; replace HO249 := Aside0.mk (Kd.V_below (by (with_reducible repeat (first | apply Kd.V_alloc | apply Kd.V_drewN | apply Kd.V_drew)); exact (Kd.V_mono (vf_ (Kd.V_mono HO249.out (fun k_ hk => (⟨hk, hk.2⟩ : _ ∧ k_ ≠ gb252))) (fun _ hk => hk.2)) (fun _ h_ => h_.1))) hb); replace BK245 := Aside0.mk (blk_below (g := gb245) (o := .cells #[.slice A0_0 l0_0.length c0_0, .int .i64 a0_1] 46 (0, 0)) (bp_ BK245.out) hb); replace BK246 := Aside0.mk (blk_below (g := gb246) (o := .cells #[.slice none 0 0, .int .i64 0] 46 (0, 0)) (bp_ BK246.out) hb); replace BK252 := Aside0.mk (blk_below (g := gb252) (o := .cells #[.slice Ao14 t247.length co14, .int .i64 t250, .bool true] 104 (0, 0)) (bp_ BK252.out) hb); replace HB := bs_ HB hb; (try clear hb); (try clear hb2); (try clear hk); (try clear hi); obtain ⟨hcz19_0, hcz19_1, hfz19_0, hfz19_1⟩ := bc2_ BK246))
    refine bodyPost_ret (results_ct rfl _ _ gb246 46 #[.slice none 0 0, .int .i64 0] (0, 0) _ rfl (bp_ BK246.out) Try.underlying46 rfl (by kernel_rfl)) rfl ?_
    exact ⟨_, er_, by first | exact Kd.R_nil _ _ _ _ _ | exact Kd.N_nil _ _ _ _ _ | exact Kd.V_nil _ _ _ _ _ | exact Kd.Q_nil _ _ _ _ _ | exact Kd.S_nil _ _ _ _ _, hb_ HB⟩
   ·rw [if_neg c7] at H
    have c7b0 : (a1 == 0) = false := beq_eq_false_iff_ne.mpr c7
    have c7b1 : (a1 != 0) = true := bne_iff_ne.mpr c7
    replace H := Option.bind_eq_some_iff.mp H
    obtain ⟨⟨t254, t257⟩, A200, H⟩ := H
    replace H : (if 0 ≤ a1 then (if a1 < (t254.length : Int) then (if 0 ≤ ((rd_T69 t254 a1).f0) then (if ((rd_T69 t254 a1).f0) < (t254.length : Int) then (some ((t254.set (((rd_T69 t254 a1).f0) : Int).toNat (⟨(rd_T69 t254 ((rd_T69 t254 a1).f0)).f0, a1, (rd_T69 t254 ((rd_T69 t254 a1).f0)).f2, (rd_T69 t254 ((rd_T69 t254 a1).f0)).f3, (⟨(rd_T69 t254 ((rd_T69 t254 a1).f0)).f4.f0, (rd_T69 t254 ((rd_T69 t254 a1).f0)).f4.f1, (rd_T69 t254 ((rd_T69 t254 a1).f0)).f4.f2⟩ : S24)⟩ : S69)), t257, 0)) else (none)) else (none)) else (none)) else (none)) = some (r1, r2, r3) := H
    have A20 := Aside0.mk A200
    clear A200
    by_cases c21 : 0 ≤ a1
    ·rw [if_pos c21] at H
     have c21b0 : decide (0 ≤ a1) = true := decide_eq_true c21
     clear c21
     by_cases c22 : a1 < (t254.length : Int)
     ·rw [if_pos c22] at H
      have c22b0 : decide (a1 < (t254.length : Int)) = true := decide_eq_true c22
      clear c22
      by_cases c23 : 0 ≤ ((rd_T69 t254 a1).f0)
      ·rw [if_pos c23] at H
       have c23b0 : decide (0 ≤ ((rd_T69 t254 a1).f0)) = true := decide_eq_true c23
       clear c23
       by_cases c24 : ((rd_T69 t254 a1).f0) < (t254.length : Int)
       ·rw [if_pos c24] at H
        have c24b0 : decide (((rd_T69 t254 a1).f0) < (t254.length : Int)) = true := decide_eq_true c24
        clear c24
        obtain ⟨y260, hy260⟩ : ∃ y_ : List (S69), y_ = (t254.set (((rd_T69 t254 a1).f0) : Int).toNat (⟨(rd_T69 t254 ((rd_T69 t254 a1).f0)).f0, a1, (rd_T69 t254 ((rd_T69 t254 a1).f0)).f2, (rd_T69 t254 ((rd_T69 t254 a1).f0)).f3, (⟨(rd_T69 t254 ((rd_T69 t254 a1).f0)).f4.f0, (rd_T69 t254 ((rd_T69 t254 a1).f0)).f4.f1, (rd_T69 t254 ((rd_T69 t254 a1).f0)).f4.f2⟩ : S24)⟩ : S69)) := ⟨_, rfl⟩
        replace H : (some (y260, t257, 0)) = some (r1, r2, r3) := th_ H hy260
        have Ny260 := Aside0.mk hy260
        clear hy260
        simp only [Option.some.injEq, Prod.mk.injEq] at H
        obtain ⟨rfl, rfl, rfl⟩ := H
        go_enter Try.func49, Try.ntmps49
        try go_wp2_with (first | ((with_reducible refine gate_dst (N := 2) rfl ?_); refine be_ (N := 2) (cs := #[.slice A0_0 l0_0.length c0_0, .int .i64 a0_1]) (t := 46) (h := ?_); intro gb245 hg w26 hbox hb; have BK245 := Aside0.mk (hbox); have GW245 := gw_ HB hg; have GE245 := gw_ HB hg; replace HB := bs_ HB hb; clear hb hbox hg) | ((with_reducible refine gate_dst (N := 4) rfl ?_); refine be_ (N := 4) (cs := #[.slice none 0 0, .int .i64 0]) (t := 46) (h := ?_); intro gb246 hg w27 hbox hb; have BK246 := Aside0.mk (hbox); have GW246 := gw_ HB hg; have GE246 := gw_ HB hg; have NB245_246 := ne_ BK245 hg; have NB246_245 := en_ BK245 hg; replace BK245 := bb_ BK245 hb; replace HB := bs_ HB hb; clear hb hbox hg; have hnb28 := NB245_246.out; have hnc28 := NB246_245.out; obtain ⟨hcz29_0, hcz29_1, hfz29_0, hfz29_1⟩ := bc2_ BK245) | ((with_reducible refine gate_callee (f := 79) rfl ?_); refine ge_ (some 9) rfl rfl Try.func79 (by kernel_rfl) rfl #[.agg #[.slice A0_0 l0_0.length c0_0, .int .i64 a0_1]] rfl (h := ?_); (with_reducible refine (tree_open.calls k (fun k_ => k_ < w.heap.size) _ _ l0_0 a0_1 t247 t250 true _ ?side1 A3.out).mono ?_); (case side1 => exact Kd.V_mk HC0_0.out (Kd.F_below (Kd.C_F k69_heap HR0_0.out) (hb_ HB))); rintro e w30 ⟨v248, rfl, ho0, hb⟩; refine ⟨_, rfl, ?_⟩; have HO249 := Aside0.mk (Kd.V_lower (Kd.V_mono (ok' := fun k_ => k_ ≠ gb245 ∧ k_ ≠ gb246) ho0 (fun k_ hk_ => ⟨Or.elim hk_ (fun hs_ => fun e_ => Nat.not_le.2 hs_ (by rw [e_]; exact GW245.out)) (fun hn_ => (Kd.freshB (g := gb245) (o := .cells #[.slice A0_0 l0_0.length c0_0, .int .i64 a0_1] 46 (0, 0)) (bw_ BK245.out) k_ hn_)), Or.elim hk_ (fun hs_ => fun e_ => Nat.not_le.2 hs_ (by rw [e_]; exact GW246.out)) (fun hn_ => (Kd.freshB (g := gb246) (o := .cells #[.slice none 0 0, .int .i64 0] 46 (0, 0)) (bw_ BK246.out) k_ hn_))⟩)) (below_size (hb_ HB))); replace BK245 := bb_ BK245 hb; replace BK246 := bb_ BK246 hb; replace HB := bs_ HB hb; (try clear hb); (try clear hb2); (try clear hk); (try clear hi); (try clear ho0)) | ((with_reducible refine gate_dst (N := 6) rfl ?_); refine be_ (N := 6) (cs := #[.slice none 0 0, .int .i64 0, .bool false]) (t := 104) (h := ?_); intro gb252 hg w31 hbox hb; have BK252 := Aside0.mk (hbox); have GW252 := gw_ HB hg; have GE252 := gw_ HB hg; have NB245_252 := ne_ BK245 hg; have NB252_245 := en_ BK245 hg; have NB246_252 := ne_ BK246 hg; have NB252_246 := en_ BK246 hg; replace HO249 := Aside0.mk (Kd.V_below (Kd.V_elderB (vw_ HO249.out) gb252 (Nat.le_of_eq hg.symm)) hb); replace BK245 := bb_ BK245 hb; replace BK246 := bb_ BK246 hb; replace HB := bs_ HB hb; clear hb hbox hg; obtain ⟨Ao32, co32, eo32⟩ := Kd.V_slice HO249.out; subst eo32; have hnb33 := NB252_245.out; have hnc33 := NB245_252.out; have hnb34 := NB252_246.out; have hnc34 := NB246_252.out; obtain ⟨hcz35_0, hcz35_1, hcz35_2, hfz35_0, hfz35_1, hfz35_2⟩ := bc3_ BK252) | ((with_reducible refine gate_callee (f := 85) rfl ?_); refine ge_ (some 17) rfl rfl Try.func85 (by kernel_rfl) rfl #[.agg #[.slice Ao32 t247.length co32, .int .i64 t250], .int .i64 a1] rfl (h := ?_); (with_reducible refine (tree_book_has.calls _ _ t247 t250 a1 true _ ?side1 ?side2 A5.out).mono ?_); (case side1 => refine (Kd.V_reads' (e := 69) (base := w.heap.size) (ok := fun k_ => ((k_ ≠ gb245 ∧ k_ ≠ gb246) ∧ k_ ≠ gb252)) (n := t247.length) (c := co32) ?_).2.2; exact (by (with_reducible repeat (first | apply Kd.V_alloc | apply Kd.V_drewN | apply Kd.V_drew)); exact (Kd.V_mono (vf_ (Kd.V_mono HO249.out (fun k_ hk => (⟨hk, hk.2⟩ : _ ∧ k_ ≠ gb252))) (fun _ hk => hk.2)) (fun _ h_ => h_.1)))); (case side2 => exact (Kd.V_reads' HO249.out).2.1); rintro e w36 ⟨rfl, hb⟩; refine ⟨_, rfl, ?_⟩; replace HO249 := Aside0.mk (Kd.V_below (by (with_reducible repeat (first | apply Kd.V_alloc | apply Kd.V_drewN | apply Kd.V_drew)); exact (Kd.V_mono (vf_ (Kd.V_mono HO249.out (fun k_ hk => (⟨hk, hk.2⟩ : _ ∧ k_ ≠ gb252))) (fun _ hk => hk.2)) (fun _ h_ => h_.1))) hb); replace BK245 := Aside0.mk (blk_below (g := gb245) (o := .cells #[.slice A0_0 l0_0.length c0_0, .int .i64 a0_1] 46 (0, 0)) (bp_ BK245.out) hb); replace BK246 := Aside0.mk (blk_below (g := gb246) (o := .cells #[.slice none 0 0, .int .i64 0] 46 (0, 0)) (bp_ BK246.out) hb); replace BK252 := Aside0.mk (blk_below (g := gb252) (o := .cells #[.slice Ao32 t247.length co32, .int .i64 t250, .bool true] 104 (0, 0)) (bp_ BK252.out) hb); replace HB := bs_ HB hb; (try clear hb); (try clear hb2); (try clear hk); (try clear hi); obtain ⟨hcz37_0, hcz37_1, hcz37_2, hfz37_0, hfz37_1, hfz37_2⟩ := bc3_ BK252) | ((with_reducible refine gate_callee (f := 80) rfl ?_); refine ge_ (some 26) rfl rfl Try.func80 (by kernel_rfl) rfl #[.agg #[.slice Ao32 t247.length co32, .int .i64 t250]] rfl (h := ?_); (with_reducible refine (tree_book_copy.calls _ _ t247 t250 t254 t257 _ ?side1 ?side2 A20.out).mono ?_); (case side1 => repeat (first | exact (Kd.V_reads' HO249.out).2.2 | (with_reducible refine Kd.C_alloc ?_ _) | (with_reducible refine Kd.C_drewN ?_ _) | (with_reducible refine Kd.C_drew ?_))); (case side2 => exact (Kd.V_reads' HO249.out).2.1); rintro e w38 ⟨v255, rfl, ho0, hb⟩; refine ⟨_, rfl, ?_⟩; have HO256 := Aside0.mk (Kd.R_lower ho0 (below_size (hb_ HB))); replace HO249 := Aside0.mk (Kd.V_elder' (vw_ HO249.out) (Kd.R_base ho0) hb); replace BK245 := bb_ BK245 hb; replace BK246 := bb_ BK246 hb; replace BK252 := bb_ BK252 hb; replace HB := bs_ HB hb; (try clear hb); (try clear hb2); (try clear hk); (try clear hi); (try clear ho0)) | ((with_reducible refine gate_dst (N := 7) rfl ?_); refine be_ (N := 7) (cs := #[.slice none 0 0, .int .i64 0]) (t := 102) (h := ?_); intro gb258 hg w39 hbox hb; have BK258 := Aside0.mk (hbox); have GW258 := gw_ HB hg; have GE258 := gw_ HB hg; have NB245_258 := ne_ BK245 hg; have NB258_245 := en_ BK245 hg; have NB246_258 := ne_ BK246 hg; have NB258_246 := en_ BK246 hg; have NB252_258 := ne_ BK252 hg; have NB258_252 := en_ BK252 hg; replace HO249 := Aside0.mk (Kd.V_below (Kd.V_elderB (vw_ HO249.out) gb258 (Nat.le_of_eq hg.symm)) hb); replace HO256 := Aside0.mk (Kd.R_below (rw_ HO256.out) hb); replace BK245 := bb_ BK245 hb; replace BK246 := bb_ BK246 hb; replace BK252 := bb_ BK252 hb; replace HB := bs_ HB hb; clear hb hbox hg; obtain ⟨Ao40, co40, eo40⟩ := Kd.R_slice HO256.out; subst eo40; have hnb41 := NB258_245.out; have hnc41 := NB245_258.out; have hnb42 := NB258_246.out; have hnc42 := NB246_258.out; have hnb43 := NB258_252.out; have hnc43 := NB252_258.out; obtain ⟨hcz44_0, hcz44_1, hfz44_0, hfz44_1⟩ := bc2_ BK258))
        obtain ⟨w45, hW_⟩ : ∃ x, x = ((w39.setCell ⟨gb258, 0, none⟩ (.slice Ao40 t254.length co40)).setCell ⟨gb258, 1, none⟩ (.int .i64 t257)) := ⟨_, rfl⟩
        have n0_ : Aside0 (Kd.V k69 69 w45 w.heap.size (fun k_ => some k_ ≠ (.slice Ao40 t254.length co40 : Value).ownBlock ∧ k_ ≠ gb245 ∧ k_ ≠ gb246 ∧ k_ ≠ gb252 ∧ k_ ≠ gb258) (.slice Ao32 t247.length co32) t247) := ⟨by rw [hW_]; (with_reducible repeat (first | apply Kd.V_alloc | apply Kd.V_drewN | apply Kd.V_drew)); exact Kd.V_mono (vf_ (Kd.V_mono HO249.out (fun k_ hk => (⟨hk, hk.2⟩ : _ ∧ k_ ≠ gb258))) (fun _ hk => hk.2)) (fun _ hk => ⟨hk.1.1.2, ⟨hk.1.1.1.1.1, ⟨hk.1.1.1.1.2, ⟨hk.1.1.1.2, hk.1.2⟩⟩⟩⟩)⟩
        have n1_ : Aside0 (Kd.R k69 69 w45 w.heap.size (fun _ => True) (.slice Ao40 t254.length co40) t254) := ⟨by rw [hW_]; (with_reducible repeat (first | apply Kd.R_alloc | apply Kd.R_drewN | apply Kd.R_drew)); exact Kd.R_mono (rf_ (Kd.R_types HO256.out BK258.out (by decide)) (fun _ hk => hk.2)) (fun _ hk => trivial)⟩
        have n2_ : Aside0 (w45.heap[gb245]? = some (.cells #[.slice A0_0 l0_0.length c0_0, .int .i64 a0_1] 46 (0, 0))) := ⟨by rw [hW_]; exact bp_ BK245.out⟩
        have n3_ : Aside0 (w45.heap[gb246]? = some (.cells #[.slice none 0 0, .int .i64 0] 46 (0, 0))) := ⟨by rw [hW_]; exact bp_ BK246.out⟩
        have n4_ : Aside0 (w45.heap[gb252]? = some (.cells #[.slice Ao32 t247.length co32, .int .i64 t250, .bool true] 104 (0, 0))) := ⟨by rw [hW_]; exact bp_ BK252.out⟩
        have n5_ : Aside0 (w45.heap[gb258]? = some (.cells #[.slice Ao40 t254.length co40, .int .i64 t257] 102 (0, 0))) := ⟨by rw [hW_]; exact bp_ BK258.out⟩
        have n6_ : Aside0 (Below w.heap.size w w45) := ⟨by rw [hW_]; exact hb_ HB⟩
        (try clear HO249)
        (try clear HO256)
        (try clear BK245)
        (try clear BK246)
        (try clear BK252)
        (try clear BK258)
        (try clear HB)
        rw [← hW_]; clear hW_
        have HO249 := n0_
        have HO256 := n1_
        have BK245 := n2_
        have BK246 := n3_
        have BK252 := n4_
        have BK258 := n5_
        have HB := n6_
        clear n0_ n1_ n2_ n3_ n4_ n5_ n6_
        have n0_ := Aside0.mk (Kd.V_drew HO249.out)
        have n1_ := Aside0.mk (Kd.R_drew HO256.out)
        have n2_ := Aside0.mk (blk_drew BK245.out)
        have n3_ := Aside0.mk (blk_drew BK246.out)
        have n4_ := Aside0.mk (blk_drew BK252.out)
        have n5_ := Aside0.mk (blk_drew BK258.out)
        have n6_ := Aside0.mk (below_drew1 HB.out)
        clear HO249
        clear HO256
        clear BK245
        clear BK246
        clear BK252
        clear BK258
        clear HB
        have HO249 := n0_
        have HO256 := n1_
        have BK245 := n2_
        have BK246 := n3_
        have BK252 := n4_
        have BK258 := n5_
        have HB := n6_
        clear n0_ n1_ n2_ n3_ n4_ n5_ n6_
        have p259 : 0 ≤ (a1 : Int) := of_decide_eq_true as_
        have q259 : a1 < (t254.length : Int) := of_decide_eq_true as_
        obtain ⟨ad259, e259, hx259_0, hx259_1, hx259_2, hx259_3, hx259_4, hx259_5, hx259_6⟩ := at_T69 (Kd.R_reads' HO256.out).2.2 a1 p259 q259
        cases e259
        replace p259 := eq_true p259
        replace q259 := eq_true q259
        have p25 : 0 ≤ (((rd_T69 t254 a1).f0) : Int) := of_decide_eq_true as_
        have q25 : (((rd_T69 t254 a1).f0) : Int) < ((t254.length : Int) : Int) := of_decide_eq_true as_
        obtain ⟨go25, co25, eo25, gb25, gl25, cl25, HG25⟩ := Kd.R_form HO256.out (by omega)
        (first | cases eo25 | (injection eo25 with ea_ en_ ec_; (first | subst ea_ | (injection ea_ with ea_; subst ea_)); subst ec_; clear en_))
        have GB25 := Aside0.mk gb25
        have GG25 := Aside0.mk HG25
        clear gb25 gl25 HG25
        (first | simp only [add_plain] at hx259_0 | skip)
        (first | simp only [add_plain] at hx259_1 | skip)
        (first | simp only [add_plain] at hx259_2 | skip)
        (first | simp only [add_plain] at hx259_3 | skip)
        (first | simp only [add_plain] at hx259_4 | skip)
        (first | simp only [add_plain] at hx259_5 | skip)
        (first | simp only [add_plain] at hx259_6 | skip)
        obtain ⟨ce25, hcl25, hM25, hcc25, hfr25⟩ := Kd.R_elem HO256.out z69 (((rd_T69 t254 a1).f0) : Int) p25 q25
        obtain rfl := k69_openM hM25
        have hx25_0 : World.cell? _ ⟨go25, (((rd_T69 t254 a1).f0) : Int).toNat * 7, none⟩ = some (.int .i64 ((rd_T69 t254 ((rd_T69 t254 a1).f0)).f0)) := hcc25 0 _ rfl
        have hx25_1 : World.cell? _ ⟨go25, (((rd_T69 t254 a1).f0) : Int).toNat * 7 + 1, none⟩ = some (.int .i64 ((rd_T69 t254 ((rd_T69 t254 a1).f0)).f1)) := hcc25 1 _ rfl
        have hx25_2 : World.cell? _ ⟨go25, (((rd_T69 t254 a1).f0) : Int).toNat * 7 + 2, none⟩ = some (.int .i64 ((rd_T69 t254 ((rd_T69 t254 a1).f0)).f2)) := hcc25 2 _ rfl
        have hx25_3 : World.cell? _ ⟨go25, (((rd_T69 t254 a1).f0) : Int).toNat * 7 + 3, none⟩ = some (.int .i64 ((rd_T69 t254 ((rd_T69 t254 a1).f0)).f3)) := hcc25 3 _ rfl
        have hx25_4 : World.cell? _ ⟨go25, (((rd_T69 t254 a1).f0) : Int).toNat * 7 + 4, none⟩ = some (.int .i64 ((rd_T69 t254 ((rd_T69 t254 a1).f0)).f4.f0)) := hcc25 4 _ rfl
        have hx25_5 : World.cell? _ ⟨go25, (((rd_T69 t254 a1).f0) : Int).toNat * 7 + 5, none⟩ = some (.string ((rd_T69 t254 ((rd_T69 t254 a1).f0)).f4.f1)) := hcc25 5 _ rfl
        have hx25_6 : World.cell? _ ⟨go25, (((rd_T69 t254 a1).f0) : Int).toNat * 7 + 6, none⟩ = some (.string ((rd_T69 t254 ((rd_T69 t254 a1).f0)).f4.f2)) := hcc25 6 _ rfl
        have hf25_0 : World.frozen? _ ⟨go25, (((rd_T69 t254 a1).f0) : Int).toNat * 7, none⟩ = false := hfr25 0
        have hf25_1 : World.frozen? _ ⟨go25, (((rd_T69 t254 a1).f0) : Int).toNat * 7 + 1, none⟩ = false := hfr25 1
        have hf25_2 : World.frozen? _ ⟨go25, (((rd_T69 t254 a1).f0) : Int).toNat * 7 + 2, none⟩ = false := hfr25 2
        have hf25_3 : World.frozen? _ ⟨go25, (((rd_T69 t254 a1).f0) : Int).toNat * 7 + 3, none⟩ = false := hfr25 3
        have hf25_4 : World.frozen? _ ⟨go25, (((rd_T69 t254 a1).f0) : Int).toNat * 7 + 4, none⟩ = false := hfr25 4
        have hf25_5 : World.frozen? _ ⟨go25, (((rd_T69 t254 a1).f0) : Int).toNat * 7 + 5, none⟩ = false := hfr25 5
        have hf25_6 : World.frozen? _ ⟨go25, (((rd_T69 t254 a1).f0) : Int).toNat * 7 + 6, none⟩ = false := hfr25 6
        clear hcl25 hcc25 hfr25 hM25
        replace p25 := eq_true p25
        replace q25 := eq_true q25
        obtain ⟨ce47, hcl47, hM47, hcc47, hfr47⟩ := Kd.R_elem HO256.out z69 (((rd_T69 t254 a1).f0) : Int) (of_decide_eq_true as_) (by have h_ : (((rd_T69 t254 a1).f0) : Int) < ((t254.length : Int) : Int) := of_decide_eq_true as_; first | exact h_ | (have e_ := (Kd.R_reads' HO256.out).1; omega) | simpa using h_)
        obtain rfl := k69_openM hM47
        have HP47 := (Kd.R_seg HO256.out (((rd_T69 t254 a1).f0) : Int) (of_decide_eq_true as_) (by have h_ : (((rd_T69 t254 a1).f0) : Int) < ((t254.length : Int) : Int) := of_decide_eq_true as_; first | exact h_ | (have e_ := (Kd.R_reads' HO256.out).1; omega) | simpa using h_) (seg := [.int .i64 a1]) (j := 1) hcl47 hcc47 (show 2 ≤ 7 from by decide) (x' := (⟨(rd_T69 t254 ((rd_T69 t254 a1).f0)).f0, a1, (rd_T69 t254 ((rd_T69 t254 a1).f0)).f2, (rd_T69 t254 ((rd_T69 t254 a1).f0)).f3, (⟨(rd_T69 t254 ((rd_T69 t254 a1).f0)).f4.f0, (rd_T69 t254 ((rd_T69 t254 a1).f0)).f4.f1, (rd_T69 t254 ((rd_T69 t254 a1).f0)).f4.f2⟩ : S24)⟩ : S69)) (k69_mkM _ _ _ (⟨(rd_T69 t254 ((rd_T69 t254 a1).f0)).f0, a1, (rd_T69 t254 ((rd_T69 t254 a1).f0)).f2, (rd_T69 t254 ((rd_T69 t254 a1).f0)).f3, (⟨(rd_T69 t254 ((rd_T69 t254 a1).f0)).f4.f0, (rd_T69 t254 ((rd_T69 t254 a1).f0)).f4.f1, (rd_T69 t254 ((rd_T69 t254 a1).f0)).f4.f2⟩ : S24)⟩ : S69) ) (fun _ hk => hk)).1
        rw [← Ny260.out] at HP47
        have HQ47 := Aside0.mk HP47
        clear hcl47 hcc47 hfr47 hM47 HP47
        refine start_ (n := 14) (S := fun w' => w'.cell? ⟨gb258, 0, none⟩ = some (.slice (some ⟨go25, 0, none⟩) t254.length co40) ∧ w'.cell? ⟨gb258, 1, none⟩ = some (.int .i64 t257) ∧ w'.cell? ⟨go25, ((a1).toNat * 7), none⟩ = some (.int .i64 ((rd_T69 t254 a1).f0)) ∧ w'.cell? ⟨go25, ((a1).toNat * 7) + 1, none⟩ = some (.int .i64 ((rd_T69 t254 a1).f1)) ∧ w'.cell? ⟨go25, ((a1).toNat * 7) + 2, none⟩ = some (.int .i64 ((rd_T69 t254 a1).f2)) ∧ w'.cell? ⟨go25, ((a1).toNat * 7) + 3, none⟩ = some (.int .i64 ((rd_T69 t254 a1).f3)) ∧ w'.cell? ⟨go25, ((a1).toNat * 7) + 4, none⟩ = some (.int .i64 ((rd_T69 t254 a1).f4.f0)) ∧ w'.cell? ⟨go25, ((a1).toNat * 7) + 5, none⟩ = some (.string ((rd_T69 t254 a1).f4.f1)) ∧ w'.cell? ⟨go25, ((a1).toNat * 7) + 6, none⟩ = some (.string ((rd_T69 t254 a1).f4.f2))) (ds := [13]) #[false, false, false, false, false, false, false, false, false, false, false, false, false, false] (by kernel_rfl) rfl rfl ⟨(blk_cell BK258.out 0).trans rfl, (blk_cell BK258.out 1).trans rfl, hx259_0, hx259_1, hx259_2, hx259_3, hx259_4, hx259_5, hx259_6⟩ (fun hHeld => ?_); refine with_tabW tree_Choose.tab7 tree_Choose.bits7 (fun HT_ HW_ => ?_)
        generalize w45.drew = w46 at HO249 HO256 BK245 BK246 BK252 BK258 HB GG25 HQ47 hf25_0 hf25_1 hf25_2 hf25_3 hf25_4 hf25_5 hf25_6 hx259_0 hx259_1 hx259_2 hx259_3 hx259_4 hx259_5 hx259_6 hx25_0 hx25_1 hx25_2 hx25_3 hx25_4 hx25_5 hx25_6 hHeld ⊢
        refine pp_ (i := 0) (N := some 27) #[true, false, false, false, false, false, false, false, false, false, false, false, false, false] rfl rfl (any_of HT_.out (by kernel_rfl)) (h := ?_)
        refine pp_ (i := 1) (N := some 28) #[true, true, false, false, false, false, false, false, false, false, false, false, false, false] rfl rfl (any_of HT_.out (by kernel_rfl)) (h := ?_)
        refine pp_ (i := 3) (N := some 30) #[true, true, false, true, false, false, false, false, false, false, false, false, false, false] rfl rfl (any_of HT_.out (by kernel_rfl)) (h := ?_)
        refine pp_ (i := 4) (N := some 31) #[true, true, false, true, true, false, false, false, false, false, false, false, false, false] rfl rfl (any_of HT_.out (by kernel_rfl)) (h := ?_)
        refine pp_ (i := 6) (N := some 33) #[true, true, false, true, true, false, true, false, false, false, false, false, false, false] rfl rfl (any_of HT_.out (by kernel_rfl)) (h := ?_)
        refine pp_ (i := 10) (N := some 37) #[true, true, false, true, true, false, true, false, false, false, true, false, false, false] rfl rfl (any_of HT_.out (by kernel_rfl)) (h := ?_)
        refine take_ (i := 2) (N := some 29) (v := ?_) (a' := ?_) #[true, true, true, true, true, false, true, false, false, false, true, false, false, false] rfl rfl (take_ofW HT_.out HW_.out (by kernel_rfl)) (fun _ _ _ h => h) (Or.inl ⟨by rfl, ?_⟩) hHeld ?_ ?_
        rotate_left
        ·rintro w' ⟨s0, s1, s2, s3, s4, s5, s6, s7, s8⟩
         go_simp
         with_reducible rfl
        rotate_left
        ·simp only [Act.put, List.setIfInBounds_toArray, List.set_cons_zero, List.set_cons_succ, i64_w, i32_w]
         rfl
        refine take_ (i := 5) (N := some 32) (v := ?_) (a' := ?_) #[true, true, true, true, true, true, true, false, false, false, true, false, false, false] rfl rfl (take_ofW HT_.out HW_.out (by kernel_rfl)) (fun _ _ _ h => h) (Or.inl ⟨by rfl, ?_⟩) hHeld ?_ ?_
        rotate_left
        ·rintro w' ⟨s0, s1, s2, s3, s4, s5, s6, s7, s8⟩
         go_simp
         with_reducible rfl
        rotate_left
        ·simp only [Act.put, List.setIfInBounds_toArray, List.set_cons_zero, List.set_cons_succ, i64_w, i32_w]
         rfl
        refine pp_ (i := 7) (N := some 34) #[true, true, true, true, true, true, true, true, false, false, true, false, false, false] rfl rfl (any_of HT_.out (by kernel_rfl)) (h := ?_)
        refine pp_ (i := 8) (N := some 35) #[true, true, true, true, true, true, true, true, true, false, true, false, false, false] rfl rfl (any_of HT_.out (by kernel_rfl)) (h := ?_)
        refine take_ (i := 9) (N := some 36) (v := ?_) (a' := ?_) #[true, true, true, true, true, true, true, true, true, true, true, false, false, false] rfl rfl (take_ofW HT_.out HW_.out (by kernel_rfl)) (fun _ _ _ h => h) (Or.inl ⟨by rfl, ?_⟩) hHeld ?_ ?_
        rotate_left
        ·rintro w' ⟨s0, s1, s2, s3, s4, s5, s6, s7, s8⟩
         go_simp
         with_reducible rfl
        rotate_left
        ·simp only [Act.put, List.setIfInBounds_toArray, List.set_cons_zero, List.set_cons_succ, i64_w, i32_w]
         rfl
        refine pp_ (i := 11) (N := some 38) #[true, true, true, true, true, true, true, true, true, true, true, true, false, false] rfl rfl (any_of HT_.out (by kernel_rfl)) (h := ?_)
        refine pp_ (i := 12) (N := some 39) #[true, true, true, true, true, true, true, true, true, true, true, true, true, false] rfl rfl (any_of HT_.out (by kernel_rfl)) (h := ?_)
        refine last_ (i := 13) (N := none) #[true, true, true, true, true, true, true, true, true, true, true, true, true, true] rfl rfl (one_of HT_.out (by kernel_rfl)) (by decide) (fun K hK => ?_)
        refine skip_ (w1 := ?_) (by rfl) rfl ?_ ?_
        rotate_left
        ·go_simp
         rfl
        refine hK.out _ _ ?_
        clear hK K
        refine done_ (done_of HT_.out (by kernel_rfl)) ?_
        have n0_ : Aside0 (Kd.V k69 69 (w46.setCell ⟨go25, (((rd_T69 t254 a1).f0) : Int).toNat * 7 + 1, none⟩ (.int .i64 a1)) w.heap.size (fun k_ => some k_ ≠ (.slice (some ⟨go25, 0, none⟩) t254.length co40 : Value).ownBlock ∧ k_ ≠ gb245 ∧ k_ ≠ gb246 ∧ k_ ≠ gb252 ∧ k_ ≠ gb258) (.slice Ao32 t247.length co32) t247) := ⟨by (with_reducible repeat (first | apply Kd.V_alloc | apply Kd.V_drewN | apply Kd.V_drew)); exact Kd.V_mono (Kd.V_far (p := ⟨go25, (((rd_T69 t254 a1).f0) : Int).toNat * 7 + 1, none⟩) (Kd.V_mono HO249.out (fun k_ hk => (⟨hk, fun e_ => hk.1 (by rw [e_]; rfl)⟩ : _ ∧ k_ ≠ go25))) (fun _ hk => hk.2) (.int .i64 a1)) (fun _ hk => ⟨hk.1.1, ⟨hk.1.2.1, ⟨hk.1.2.2.1, ⟨hk.1.2.2.2.1, hk.1.2.2.2.2⟩⟩⟩⟩)⟩
        have n1_ : Aside0 (Kd.R k69 69 (w46.setCell ⟨go25, (((rd_T69 t254 a1).f0) : Int).toNat * 7 + 1, none⟩ (.int .i64 a1)) w.heap.size (fun _ => True) (.slice (some ⟨go25, 0, none⟩) t254.length co40) y260) := ⟨rw_ HQ47.out⟩
        have n2_ : Aside0 ((w46.setCell ⟨go25, (((rd_T69 t254 a1).f0) : Int).toNat * 7 + 1, none⟩ (.int .i64 a1)).heap[gb245]? = some (.cells #[.slice A0_0 l0_0.length c0_0, .int .i64 a0_1] 46 (0, 0))) := ⟨by (with_reducible repeat (first | refine blk_drewN ?_ _ | refine blk_drew ?_ | refine blk_alloc ?_ _)); refine blk_far ?_ (by have h_ := Kd.R_ne HO256.out BK245.out (by decide); intro e_; exact h_ (by rw [e_]; rfl)) _; (with_reducible repeat (first | refine blk_drewN ?_ _ | refine blk_drew ?_ | refine blk_alloc ?_ _)); exact BK245.out⟩
        have n3_ : Aside0 ((w46.setCell ⟨go25, (((rd_T69 t254 a1).f0) : Int).toNat * 7 + 1, none⟩ (.int .i64 a1)).heap[gb246]? = some (.cells #[.slice none 0 0, .int .i64 0] 46 (0, 0))) := ⟨by (with_reducible repeat (first | refine blk_drewN ?_ _ | refine blk_drew ?_ | refine blk_alloc ?_ _)); refine blk_far ?_ (by have h_ := Kd.R_ne HO256.out BK246.out (by decide); intro e_; exact h_ (by rw [e_]; rfl)) _; (with_reducible repeat (first | refine blk_drewN ?_ _ | refine blk_drew ?_ | refine blk_alloc ?_ _)); exact BK246.out⟩
        have n4_ : Aside0 ((w46.setCell ⟨go25, (((rd_T69 t254 a1).f0) : Int).toNat * 7 + 1, none⟩ (.int .i64 a1)).heap[gb252]? = some (.cells #[.slice Ao32 t247.length co32, .int .i64 t250, .bool true] 104 (0, 0))) := ⟨by (with_reducible repeat (first | refine blk_drewN ?_ _ | refine blk_drew ?_ | refine blk_alloc ?_ _)); refine blk_far ?_ (by have h_ := Kd.R_ne HO256.out BK252.out (by decide); intro e_; exact h_ (by rw [e_]; rfl)) _; (with_reducible repeat (first | refine blk_drewN ?_ _ | refine blk_drew ?_ | refine blk_alloc ?_ _)); exact BK252.out⟩
        have n5_ : Aside0 ((w46.setCell ⟨go25, (((rd_T69 t254 a1).f0) : Int).toNat * 7 + 1, none⟩ (.int .i64 a1)).heap[gb258]? = some (.cells #[.slice (some ⟨go25, 0, none⟩) t254.length co40, .int .i64 t257] 102 (0, 0))) := ⟨by (with_reducible repeat (first | refine blk_drewN ?_ _ | refine blk_drew ?_ | refine blk_alloc ?_ _)); refine blk_far ?_ (by have h_ := Kd.R_ne HO256.out BK258.out (by decide); intro e_; exact h_ (by rw [e_]; rfl)) _; (with_reducible repeat (first | refine blk_drewN ?_ _ | refine blk_drew ?_ | refine blk_alloc ?_ _)); exact BK258.out⟩
        have n6_ : Aside0 (Below w.heap.size w (w46.setCell ⟨go25, (((rd_T69 t254 a1).f0) : Int).toNat * 7 + 1, none⟩ (.int .i64 a1))) := ⟨by repeat (first | (with_reducible first | exact HB.out | apply below_alloc | apply pw_below_drewN | apply below_drew1 | refine below_set ?_ GB25.out | refine below_set ?_ GE245.out | refine below_set ?_ GE246.out | refine below_set ?_ GE252.out | refine below_set ?_ GE258.out) | exact HB.out)⟩
        (try clear HO249)
        (try clear HO256)
        (try clear BK245)
        (try clear BK246)
        (try clear BK252)
        (try clear BK258)
        (try clear HB)
        generalize (w46.setCell ⟨go25, (((rd_T69 t254 a1).f0) : Int).toNat * 7 + 1, none⟩ (.int .i64 a1)) = w48 at n0_ n1_ n2_ n3_ n4_ n5_ n6_ ⊢
        have HO249 := n0_
        have HO256 := n1_
        have BK245 := n2_
        have BK246 := n3_
        have BK252 := n4_
        have BK258 := n5_
        have HB := n6_
        clear n0_ n1_ n2_ n3_ n4_ n5_ n6_
        obtain ⟨hcz49_0, hcz49_1, hfz49_0, hfz49_1⟩ := bc2_ BK258
        obtain ⟨hcz50_0, hcz50_1, hfz50_0, hfz50_1⟩ := bc2_ BK246
        try go_wp2
        refine bodyPost_ret (results_ct rfl _ _ gb246 46 #[.slice (some ⟨go25, 0, none⟩) t254.length co40, .int .i64 t257] (0, 0) _ rfl (bp_ BK246.out) Try.underlying46 rfl (by kernel_rfl)) rfl ?_
        exact ⟨_, er_, by (with_reducible repeat (first | apply Kd.R_alloc | apply Kd.R_drewN | apply Kd.R_drew)); exact Kd.R_mono (rf_ (Kd.R_types HO256.out BK246.out (by decide)) (fun _ hk => hk.2)) (fun _ hk => trivial), hb_ HB⟩
       ·rw [if_neg c24] at H
        exact absurd H (by simp)
      ·rw [if_neg c23] at H
       exact absurd H (by simp)
     ·rw [if_neg c22] at H
      exact absurd H (by simp)
    ·rw [if_neg c21] at H
     exact absurd H (by simp)
  ·replace c6 := Bool.eq_false_iff.mpr c6
   subst c6
   have H1 : (some (([] : List (S69)), 0, 7)) = some (r1, r2, r3) := by rw [if_neg (show ¬ (false = true) by decide)] at H; exact H
   clear H
   have H := H1
   clear H1
   simp only [Option.some.injEq, Prod.mk.injEq] at H
   obtain ⟨rfl, rfl, rfl⟩ := H
   go_enter Try.func49, Try.ntmps49
   go_wp2_with (first | ((with_reducible refine gate_dst (N := 2) rfl ?_); refine be_ (N := 2) (cs := #[.slice A0_0 l0_0.length c0_0, .int .i64 a0_1]) (t := 46) (h := ?_); intro gb245 hg w51 hbox hb; have BK245 := Aside0.mk (hbox); have GW245 := gw_ HB hg; have GE245 := gw_ HB hg; replace HB := bs_ HB hb; clear hb hbox hg) | ((with_reducible refine gate_dst (N := 4) rfl ?_); refine be_ (N := 4) (cs := #[.slice none 0 0, .int .i64 0]) (t := 46) (h := ?_); intro gb246 hg w52 hbox hb; have BK246 := Aside0.mk (hbox); have GW246 := gw_ HB hg; have GE246 := gw_ HB hg; have NB245_246 := ne_ BK245 hg; have NB246_245 := en_ BK245 hg; replace BK245 := bb_ BK245 hb; replace HB := bs_ HB hb; clear hb hbox hg; have hnb53 := NB245_246.out; have hnc53 := NB246_245.out; obtain ⟨hcz54_0, hcz54_1, hfz54_0, hfz54_1⟩ := bc2_ BK245) | ((with_reducible refine gate_callee (f := 79) rfl ?_); refine ge_ (some 9) rfl rfl Try.func79 (by kernel_rfl) rfl #[.agg #[.slice A0_0 l0_0.length c0_0, .int .i64 a0_1]] rfl (h := ?_); (with_reducible refine (tree_open.calls k (fun k_ => k_ < w.heap.size) _ _ l0_0 a0_1 t247 t250 true _ ?side1 A3.out).mono ?_); (case side1 => exact Kd.V_mk HC0_0.out (Kd.F_below (Kd.C_F k69_heap HR0_0.out) (hb_ HB))); rintro e w55 ⟨v248, rfl, ho0, hb⟩; refine ⟨_, rfl, ?_⟩; have HO249 := Aside0.mk (Kd.V_lower (Kd.V_mono (ok' := fun k_ => k_ ≠ gb245 ∧ k_ ≠ gb246) ho0 (fun k_ hk_ => ⟨Or.elim hk_ (fun hs_ => fun e_ => Nat.not_le.2 hs_ (by rw [e_]; exact GW245.out)) (fun hn_ => (Kd.freshB (g := gb245) (o := .cells #[.slice A0_0 l0_0.length c0_0, .int .i64 a0_1] 46 (0, 0)) (bw_ BK245.out) k_ hn_)), Or.elim hk_ (fun hs_ => fun e_ => Nat.not_le.2 hs_ (by rw [e_]; exact GW246.out)) (fun hn_ => (Kd.freshB (g := gb246) (o := .cells #[.slice none 0 0, .int .i64 0] 46 (0, 0)) (bw_ BK246.out) k_ hn_))⟩)) (below_size (hb_ HB))); replace BK245 := bb_ BK245 hb; replace BK246 := bb_ BK246 hb; replace HB := bs_ HB hb; (try clear hb); (try clear hb2); (try clear hk); (try clear hi); (try clear ho0)) | ((with_reducible refine gate_dst (N := 6) rfl ?_); refine be_ (N := 6) (cs := #[.slice none 0 0, .int .i64 0, .bool false]) (t := 104) (h := ?_); intro gb252 hg w56 hbox hb; have BK252 := Aside0.mk (hbox); have GW252 := gw_ HB hg; have GE252 := gw_ HB hg; have NB245_252 := ne_ BK245 hg; have NB252_245 := en_ BK245 hg; have NB246_252 := ne_ BK246 hg; have NB252_246 := en_ BK246 hg; replace HO249 := Aside0.mk (Kd.V_below (Kd.V_elderB (vw_ HO249.out) gb252 (Nat.le_of_eq hg.symm)) hb); replace BK245 := bb_ BK245 hb; replace BK246 := bb_ BK246 hb; replace HB := bs_ HB hb; clear hb hbox hg; obtain ⟨Ao57, co57, eo57⟩ := Kd.V_slice HO249.out; subst eo57; have hnb58 := NB252_245.out; have hnc58 := NB245_252.out; have hnb59 := NB252_246.out; have hnc59 := NB246_252.out; obtain ⟨hcz60_0, hcz60_1, hcz60_2, hfz60_0, hfz60_1, hfz60_2⟩ := bc3_ BK252) | ((with_reducible refine gate_callee (f := 85) rfl ?_); refine ge_ (some 17) rfl rfl Try.func85 (by kernel_rfl) rfl #[.agg #[.slice Ao57 t247.length co57, .int .i64 t250], .int .i64 a1] rfl (h := ?_); (with_reducible refine (tree_book_has.calls _ _ t247 t250 a1 false _ ?side1 ?side2 A5.out).mono ?_); (case side1 => refine (Kd.V_reads' (e := 69) (base := w.heap.size) (ok := fun k_ => ((k_ ≠ gb245 ∧ k_ ≠ gb246) ∧ k_ ≠ gb252)) (n := t247.length) (c := co57) ?_).2.2; exact (by (with_reducible repeat (first | apply Kd.V_alloc | apply Kd.V_drewN | apply Kd.V_drew)); exact (Kd.V_mono (vf_ (Kd.V_mono HO249.out (fun k_ hk => (⟨hk, hk.2⟩ : _ ∧ k_ ≠ gb252))) (fun _ hk => hk.2)) (fun _ h_ => h_.1)))); (case side2 => exact (Kd.V_reads' HO249.out).2.1); rintro e w61 ⟨rfl, hb⟩; refine ⟨_, rfl, ?_⟩; replace HO249 := Aside0.mk (Kd.V_below (by (with_reducible repeat (first | apply Kd.V_alloc | apply Kd.V_drewN | apply Kd.V_drew)); exact (Kd.V_mono (vf_ (Kd.V_mono HO249.out (fun k_ hk => (⟨hk, hk.2⟩ : _ ∧ k_ ≠ gb252))) (fun _ hk => hk.2)) (fun _ h_ => h_.1))) hb); replace BK245 := Aside0.mk (blk_below (g := gb245) (o := .cells #[.slice A0_0 l0_0.length c0_0, .int .i64 a0_1] 46 (0, 0)) (bp_ BK245.out) hb); replace BK246 := Aside0.mk (blk_below (g := gb246) (o := .cells #[.slice none 0 0, .int .i64 0] 46 (0, 0)) (bp_ BK246.out) hb); replace BK252 := Aside0.mk (blk_below (g := gb252) (o := .cells #[.slice Ao57 t247.length co57, .int .i64 t250, .bool true] 104 (0, 0)) (bp_ BK252.out) hb); replace HB := bs_ HB hb; (try clear hb); (try clear hb2); (try clear hk); (try clear hi); obtain ⟨hcz62_0, hcz62_1, hfz62_0, hfz62_1⟩ := bc2_ BK246))
   refine bodyPost_ret (results_ct rfl _ _ gb246 46 #[.slice none 0 0, .int .i64 0] (0, 0) _ rfl (bp_ BK246.out) Try.underlying46 rfl (by kernel_rfl)) rfl ?_
   exact ⟨_, er_, by first | exact Kd.R_nil _ _ _ _ _ | exact Kd.N_nil _ _ _ _ _ | exact Kd.V_nil _ _ _ _ _ | exact Kd.Q_nil _ _ _ _ _ | exact Kd.S_nil _ _ _ _ _, hb_ HB⟩
 ·replace c4 := Bool.eq_false_iff.mpr c4
  subst c4
  have H1 : (some (([] : List (S69)), 0, 1)) = some (r1, r2, r3) := by rw [if_neg (show ¬ (false = true) by decide)] at H; exact H
  clear H
  have H := H1
  clear H1
  simp only [Option.some.injEq, Prod.mk.injEq] at H
  obtain ⟨rfl, rfl, rfl⟩ := H
  go_enter Try.func49, Try.ntmps49
  go_wp2_with (first | ((with_reducible refine gate_dst (N := 2) rfl ?_); refine be_ (N := 2) (cs := #[.slice A0_0 l0_0.length c0_0, .int .i64 a0_1]) (t := 46) (h := ?_); intro gb245 hg w63 hbox hb; have BK245 := Aside0.mk (hbox); have GW245 := gw_ HB hg; have GE245 := gw_ HB hg; replace HB := bs_ HB hb; clear hb hbox hg) | ((with_reducible refine gate_dst (N := 4) rfl ?_); refine be_ (N := 4) (cs := #[.slice none 0 0, .int .i64 0]) (t := 46) (h := ?_); intro gb246 hg w64 hbox hb; have BK246 := Aside0.mk (hbox); have GW246 := gw_ HB hg; have GE246 := gw_ HB hg; have NB245_246 := ne_ BK245 hg; have NB246_245 := en_ BK245 hg; replace BK245 := bb_ BK245 hb; replace HB := bs_ HB hb; clear hb hbox hg; have hnb65 := NB245_246.out; have hnc65 := NB246_245.out; obtain ⟨hcz66_0, hcz66_1, hfz66_0, hfz66_1⟩ := bc2_ BK245) | ((with_reducible refine gate_callee (f := 79) rfl ?_); refine ge_ (some 9) rfl rfl Try.func79 (by kernel_rfl) rfl #[.agg #[.slice A0_0 l0_0.length c0_0, .int .i64 a0_1]] rfl (h := ?_); (with_reducible refine (tree_open.calls k (fun k_ => k_ < w.heap.size) _ _ l0_0 a0_1 t247 t250 false _ ?side1 A3.out).mono ?_); (case side1 => exact Kd.V_mk HC0_0.out (Kd.F_below (Kd.C_F k69_heap HR0_0.out) (hb_ HB))); rintro e w67 ⟨v248, rfl, ho0, hb⟩; refine ⟨_, rfl, ?_⟩; have HO249 := Aside0.mk (Kd.V_lower (Kd.V_mono (ok' := fun k_ => k_ ≠ gb245 ∧ k_ ≠ gb246) ho0 (fun k_ hk_ => ⟨Or.elim hk_ (fun hs_ => fun e_ => Nat.not_le.2 hs_ (by rw [e_]; exact GW245.out)) (fun hn_ => (Kd.freshB (g := gb245) (o := .cells #[.slice A0_0 l0_0.length c0_0, .int .i64 a0_1] 46 (0, 0)) (bw_ BK245.out) k_ hn_)), Or.elim hk_ (fun hs_ => fun e_ => Nat.not_le.2 hs_ (by rw [e_]; exact GW246.out)) (fun hn_ => (Kd.freshB (g := gb246) (o := .cells #[.slice none 0 0, .int .i64 0] 46 (0, 0)) (bw_ BK246.out) k_ hn_))⟩)) (below_size (hb_ HB))); replace BK245 := bb_ BK245 hb; replace BK246 := bb_ BK246 hb; replace HB := bs_ HB hb; (try clear hb); (try clear hb2); (try clear hk); (try clear hi); (try clear ho0)) | ((with_reducible refine gate_dst (N := 6) rfl ?_); refine be_ (N := 6) (cs := #[.slice none 0 0, .int .i64 0, .bool false]) (t := 104) (h := ?_); intro gb252 hg w68 hbox hb; have BK252 := Aside0.mk (hbox); have GW252 := gw_ HB hg; have GE252 := gw_ HB hg; have NB245_252 := ne_ BK245 hg; have NB252_245 := en_ BK245 hg; have NB246_252 := ne_ BK246 hg; have NB252_246 := en_ BK246 hg; replace HO249 := Aside0.mk (Kd.V_below (Kd.V_elderB (vw_ HO249.out) gb252 (Nat.le_of_eq hg.symm)) hb); replace BK245 := bb_ BK245 hb; replace BK246 := bb_ BK246 hb; replace HB := bs_ HB hb; clear hb hbox hg; obtain ⟨Ao69, co69, eo69⟩ := Kd.V_slice HO249.out; subst eo69; have hnb70 := NB252_245.out; have hnc70 := NB245_252.out; have hnb71 := NB252_246.out; have hnc71 := NB246_252.out; obtain ⟨hcz72_0, hcz72_1, hcz72_2, hfz72_0, hfz72_1, hfz72_2⟩ := bc3_ BK252; obtain ⟨hcz73_0, hcz73_1, hfz73_0, hfz73_1⟩ := bc2_ BK246))
  refine bodyPost_ret (results_ct rfl _ _ gb246 46 #[.slice none 0 0, .int .i64 0] (0, 0) _ rfl (bp_ BK246.out) Try.underlying46 rfl (by kernel_rfl)) rfl ?_
  exact ⟨_, er_, by first | exact Kd.R_nil _ _ _ _ _ | exact Kd.N_nil _ _ _ _ _ | exact Kd.V_nil _ _ _ _ _ | exact Kd.Q_nil _ _ _ _ _ | exact Kd.S_nil _ _ _ _ _, hb_ HB⟩

end Go.Proofs.Ytkiokimpblimcaa.PTreeBack
