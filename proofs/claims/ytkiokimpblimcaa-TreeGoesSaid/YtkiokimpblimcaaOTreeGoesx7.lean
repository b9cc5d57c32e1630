/- Of the law calamus/calamuslaw11.TreeGoes: what each function that it reaches tells, as a plain Lean function with a proof that the call comes to it; the row out of that. By a program of this repo (wip/tpl/own_print.py). Conditions: none but the row's own. -/
import Derived.Test.YtkiokimpblimcaaOTreeGoesx0
import Derived.Test.YtkiokimpblimcaaOTreeGoesx2
import Derived.Test.YtkiokimpblimcaaOTreeGoesx5
import Derived.Test.YtkiokimpblimcaaOTreeGoesx6
namespace Go.Proofs.Ytkiokimpblimcaa.PTreeGoes
open Go.RowKit Go.Proofs.YtkiokimpblimcaaW.PrintWords Go.Proofs.YtkiokimpblimcaaW.PrintLast Go.Proofs.YtkiokimpblimcaaW.PrintMore
attribute [local go_sem] max2_int min2_int max_two min_two max_three min_three max_four min_four   -- for this text's walks alone
set_option linter.unusedVariables false
set_option linter.unusedSimpArgs false

attribute [local go_sem high] eqA69
/-! ### calamuslaw11_lives: function 33 -/
def calamuslaw11_lives.f (k : Nat)  : Option (Bool) := (tree_New.f).bind fun bt188 => ((tree_Add.f k bt188.1 bt188.2 0 (⟨#[]⟩ : ByteArray) (⟨#[97]⟩ : ByteArray) 0 1).bind fun bt192 => ((tree_Undo.f k bt192.1 bt192.2.1).bind fun bt198 => ((tree_Add.f k bt198.1 bt198.2.1 0 (⟨#[]⟩ : ByteArray) (⟨#[98]⟩ : ByteArray) 0 1).bind fun bt205 => (if bt192.2.2 = 0 then (if bt198.2.2.1 = 1 then (if bt198.2.2.2 = true then (if bt205.2.2 = 0 then ((tree_Kids.f k bt205.1 bt205.2.1 0).bind fun t211 => ((calamusref01_Same.f k t211 (([1, 2] : List Int))).bind fun t217 => (if t217 = true then (if bt205.2.1 = 2 then (if (bt205.1.length : Int) = 3 then (if 0 < (bt205.1.length : Int) then (some (((rd_T69 bt205.1 0).f1) == 2)) else (none)) else (some false)) else (some false)) else (some false)))) else (some false)) else (some false)) else (some false)) else (some false)))))
theorem calamuslaw11_lives.mono : ∀ k, LeO (calamuslaw11_lives.f k ) (calamuslaw11_lives.f (k + 1) ) := by
 intro  k
 unfold calamuslaw11_lives.f
 repeat' first
   | (with_reducible exact calamusref01_Same.mono _ _ _)
   | (with_reducible exact tree_Add.mono _ _ _ _ _ _ _ _)
   | (with_reducible exact tree_Kids.mono _ _ _ _)
   | (with_reducible exact tree_Undo.mono _ _ _)
   | (with_reducible exact LeO.refl _)
   | (with_reducible exact LeO.none _)
   | (with_reducible refine LeO.ite ?_ ?_)
   | (with_reducible refine LeO.bind ?_ (fun _ => ?_))
   | exact calamusref01_Same.mono _ _ _
   | exact tree_Add.mono _ _ _ _ _ _ _ _
   | exact tree_Kids.mono _ _ _ _
   | exact tree_Undo.mono _ _ _
   | exact LeO.none _
   | refine LeO.ite ?_ ?_
   | refine LeO.bind ?_ (fun _ => ?_)
theorem calamuslaw11_lives.true_ {k : Nat} {r : Bool} (h : calamuslaw11_lives.f k = some r) : r = true := by
 have h1 := at_rounds (g := fun k => calamuslaw11_lives.f k) calamuslaw11_lives.mono (Nat.le_max_left k 60) h
 have h2 := at_rounds (g := fun k => calamuslaw11_lives.f k) calamuslaw11_lives.mono (Nat.le_max_right k 60) (show calamuslaw11_lives.f 60 = some true by decide +kernel)
 rw [h1] at h2
 exact Option.some.inj h2
set_option maxHeartbeats 8000000 in
set_option maxRecDepth 100000 in
theorem calamuslaw11_lives.calls (k : Nat)  (r : Bool) (w : World) (h : calamuslaw11_lives.f k  = some r) :
  Calls Try.prog 33 #[] w fun e w' => e = .returned (.bool r) ∧ Below w.heap.size w w' := by
 have hr_ := calamuslaw11_lives.true_ h
 have hu24 := Try.underlying24
 have hu46 := Try.underlying46
 have HB := Aside0.mk (Below.refl w.heap.size w)
 have H : ((tree_New.f).bind fun bt188 => ((tree_Add.f k bt188.1 bt188.2 0 (⟨#[]⟩ : ByteArray) (⟨#[97]⟩ : ByteArray) 0 1).bind fun bt192 => ((tree_Undo.f k bt192.1 bt192.2.1).bind fun bt198 => ((tree_Add.f k bt198.1 bt198.2.1 0 (⟨#[]⟩ : ByteArray) (⟨#[98]⟩ : ByteArray) 0 1).bind fun bt205 => (if bt192.2.2 = 0 then (if bt198.2.2.1 = 1 then (if bt198.2.2.2 = true then (if bt205.2.2 = 0 then ((tree_Kids.f k bt205.1 bt205.2.1 0).bind fun t211 => ((calamusref01_Same.f k t211 (([1, 2] : List Int))).bind fun t217 => (if t217 = true then (if bt205.2.1 = 2 then (if (bt205.1.length : Int) = 3 then (if 0 < (bt205.1.length : Int) then (some (((rd_T69 bt205.1 0).f1) == 2)) else (none)) else (some false)) else (some false)) else (some false)))) else (some false)) else (some false)) else (some false)) else (some false)))))) = some r := h
 clear h
 replace H := Option.bind_eq_some_iff.mp H
 obtain ⟨⟨t188, t191⟩, A10, H⟩ := H
 replace H : ((tree_Add.f k t188 t191 0 (⟨#[]⟩ : ByteArray) (⟨#[97]⟩ : ByteArray) 0 1).bind fun bt192 => ((tree_Undo.f k bt192.1 bt192.2.1).bind fun bt198 => ((tree_Add.f k bt198.1 bt198.2.1 0 (⟨#[]⟩ : ByteArray) (⟨#[98]⟩ : ByteArray) 0 1).bind fun bt205 => (if bt192.2.2 = 0 then (if bt198.2.2.1 = 1 then (if bt198.2.2.2 = true then (if bt205.2.2 = 0 then ((tree_Kids.f k bt205.1 bt205.2.1 0).bind fun t211 => ((calamusref01_Same.f k t211 (([1, 2] : List Int))).bind fun t217 => (if t217 = true then (if bt205.2.1 = 2 then (if (bt205.1.length : Int) = 3 then (if 0 < (bt205.1.length : Int) then (some (((rd_T69 bt205.1 0).f1) == 2)) else (none)) else (some false)) else (some false)) else (some false)))) else (some false)) else (some false)) else (some false)) else (some false))))) = some r := H
 have A1 := Aside0.mk A10
 clear A10
 replace H := Option.bind_eq_some_iff.mp H
 obtain ⟨⟨t192, t195, t196⟩, A20, H⟩ := H
 replace H : ((tree_Undo.f k t192 t195).bind fun bt198 => ((tree_Add.f k bt198.1 bt198.2.1 0 (⟨#[]⟩ : ByteArray) (⟨#[98]⟩ : ByteArray) 0 1).bind fun bt205 => (if t196 = 0 then (if bt198.2.2.1 = 1 then (if bt198.2.2.2 = true then (if bt205.2.2 = 0 then ((tree_Kids.f k bt205.1 bt205.2.1 0).bind fun t211 => ((calamusref01_Same.f k t211 (([1, 2] : List Int))).bind fun t217 => (if t217 = true then (if bt205.2.1 = 2 then (if (bt205.1.length : Int) = 3 then (if 0 < (bt205.1.length : Int) then (some (((rd_T69 bt205.1 0).f1) == 2)) else (none)) else (some false)) else (some false)) else (some false)))) else (some false)) else (some false)) else (some false)) else (some false)))) = some r := H
 have A2 := Aside0.mk A20
 clear A20
 replace H := Option.bind_eq_some_iff.mp H
 obtain ⟨⟨t198, t201, t202, t203⟩, A30, H⟩ := H
 replace H : ((tree_Add.f k t198 t201 0 (⟨#[]⟩ : ByteArray) (⟨#[98]⟩ : ByteArray) 0 1).bind fun bt205 => (if t196 = 0 then (if t202 = 1 then (if t203 = true then (if bt205.2.2 = 0 then ((tree_Kids.f k bt205.1 bt205.2.1 0).bind fun t211 => ((calamusref01_Same.f k t211 (([1, 2] : List Int))).bind fun t217 => (if t217 = true then (if bt205.2.1 = 2 then (if (bt205.1.length : Int) = 3 then (if 0 < (bt205.1.length : Int) then (some (((rd_T69 bt205.1 0).f1) == 2)) else (none)) else (some false)) else (some false)) else (some false)))) else (some false)) else (some false)) else (some false)) else (some false))) = some r := H
 have A3 := Aside0.mk A30
 clear A30
 replace H := Option.bind_eq_some_iff.mp H
 obtain ⟨⟨t205, t208, t209⟩, A40, H⟩ := H
 replace H : (if t196 = 0 then (if t202 = 1 then (if t203 = true then (if t209 = 0 then ((tree_Kids.f k t205 t208 0).bind fun t211 => ((calamusref01_Same.f k t211 (([1, 2] : List Int))).bind fun t217 => (if t217 = true then (if t208 = 2 then (if (t205.length : Int) = 3 then (if 0 < (t205.length : Int) then (some (((rd_T69 t205 0).f1) == 2)) else (none)) else (some false)) else (some false)) else (some false)))) else (some false)) else (some false)) else (some false)) else (some false)) = some r := H
 have A4 := Aside0.mk A40
 clear A40
 by_cases c5 : t196 = 0
 ·rw [if_pos c5] at H
  have c5b0 : (t196 == 0) = true := beq_iff_eq.mpr c5
  have c5b1 : (t196 != 0) = false := bne_eq_false_iff_eq.mpr c5
  clear c5
  by_cases c6 : t202 = 1
  ·rw [if_pos c6] at H
   have c6b0 : (t202 == 1) = true := beq_iff_eq.mpr c6
   have c6b1 : (t202 != 1) = false := bne_eq_false_iff_eq.mpr c6
   clear c6
   by_cases c7 : t203 = true
   ·subst c7
    have H1 : (if t209 = 0 then ((tree_Kids.f k t205 t208 0).bind fun t211 => ((calamusref01_Same.f k t211 (([1, 2] : List Int))).bind fun t217 => (if t217 = true then (if t208 = 2 then (if (t205.length : Int) = 3 then (if 0 < (t205.length : Int) then (some (((rd_T69 t205 0).f1) == 2)) else (none)) else (some false)) else (some false)) else (some false)))) else (some false)) = some r := by rw [if_pos rfl] at H; exact H
    clear H
    have H := H1
    clear H1
    by_cases c8 : t209 = 0
    ·rw [if_pos c8] at H
     have c8b0 : (t209 == 0) = true := beq_iff_eq.mpr c8
     have c8b1 : (t209 != 0) = false := bne_eq_false_iff_eq.mpr c8
     clear c8
     replace H := Option.bind_eq_some_iff.mp H
     obtain ⟨t211, A90, H⟩ := H
     replace H : ((calamusref01_Same.f k t211 (([1, 2] : List Int))).bind fun t217 => (if t217 = true then (if t208 = 2 then (if (t205.length : Int) = 3 then (if 0 < (t205.length : Int) then (some (((rd_T69 t205 0).f1) == 2)) else (none)) else (some false)) else (some false)) else (some false))) = some r := H
     have A9 := Aside0.mk A90
     clear A90
     obtain ⟨y214, hy214⟩ : ∃ y_ : List Int, y_ = (([1, 2] : List Int)) := ⟨_, rfl⟩
     replace H : ((calamusref01_Same.f k t211 y214).bind fun t217 => (if t217 = true then (if t208 = 2 then (if (t205.length : Int) = 3 then (if 0 < (t205.length : Int) then (some (((rd_T69 t205 0).f1) == 2)) else (none)) else (some false)) else (some false)) else (some false))) = some r := th_ H hy214
     have Ny214 := Aside0.mk hy214
     clear hy214
     replace H := Option.bind_eq_some_iff.mp H
     obtain ⟨t217, A100, H⟩ := H
     replace H : (if t217 = true then (if t208 = 2 then (if (t205.length : Int) = 3 then (if 0 < (t205.length : Int) then (some (((rd_T69 t205 0).f1) == 2)) else (none)) else (some false)) else (some false)) else (some false)) = some r := H
     have A10 := Aside0.mk A100
     clear A100
     by_cases c11 : t217 = true
     ·subst c11
      have H1 : (if t208 = 2 then (if (t205.length : Int) = 3 then (if 0 < (t205.length : Int) then (some (((rd_T69 t205 0).f1) == 2)) else (none)) else (some false)) else (some false)) = some r := by rw [if_pos rfl] at H; exact H
      clear H
      have H := H1
      clear H1
      by_cases c12 : t208 = 2
      ·rw [if_pos c12] at H
       have c12b0 : (t208 == 2) = true := beq_iff_eq.mpr c12
       have c12b1 : (t208 != 2) = false := bne_eq_false_iff_eq.mpr c12
       clear c12
       by_cases c13 : (t205.length : Int) = 3
       ·rw [if_pos c13] at H
        have c13b0 : ((t205.length : Int) == 3) = true := beq_iff_eq.mpr c13
        have c13b1 : ((t205.length : Int) != 3) = false := bne_eq_false_iff_eq.mpr c13
        clear c13
        by_cases c14 : 0 < (t205.length : Int)
        ·rw [if_pos c14] at H
         have c14b0 : decide (0 < (t205.length : Int)) = true := decide_eq_true c14
         have c14b1 : decide (0 < t205.length) = true := decide_eq_true (by omega)
         clear c14
         obtain rfl := Option.some.inj H
         go_enter Try.func33, Try.ntmps33
         go_wp2_with (first | ((with_reducible refine gate_callee (f := 40) rfl ?_); refine ge_ (some 9) rfl rfl Try.func40 (by kernel_rfl) rfl #[] rfl (h := ?_); (with_reducible refine (tree_New.calls  t188 t191 _ A1.out).mono ?_); rintro e w15 ⟨v189, rfl, ho0, hb⟩; refine ⟨_, rfl, ?_⟩; have HO190 := Aside0.mk (Kd.R_lower ho0 (below_size (hb_ HB))); replace HB := bs_ HB hb; (try clear hb); (try clear hb2); (try clear hk); (try clear hi); (try clear ho0); obtain ⟨Ao16, co16, eo16⟩ := Kd.R_slice HO190.out; subst eo16) | ((with_reducible refine gate_callee (f := 34) rfl ?_); refine ge_ (some 11) rfl rfl Try.func34 (by kernel_rfl) rfl #[.agg #[.slice Ao16 t188.length co16, .int .i64 t191], .agg #[.int .i64 0, .string (⟨#[]⟩ : ByteArray), .string (⟨#[97]⟩ : ByteArray)], .int .i64 0, .int .i64 1] rfl (h := ?_); (with_reducible refine (tree_Add.calls k _ _ t188 t191 0 (⟨#[]⟩ : ByteArray) (⟨#[97]⟩ : ByteArray) 0 1 t192 t195 t196 _ ?side1 ?side2 A2.out).mono ?_); (case side1 => repeat (first | exact (Kd.R_reads' HO190.out).2.2 | (with_reducible refine Kd.C_alloc ?_ _) | (with_reducible refine Kd.C_drewN ?_ _) | (with_reducible refine Kd.C_drew ?_))); (case side2 => exact (Kd.R_reads' HO190.out).2.1); rintro e w17 ⟨v193, rfl, ho0, hb⟩; refine ⟨_, rfl, ?_⟩; have HO194 := Aside0.mk (Kd.R_lower (Kd.R_new' ho0 (Kd.R_lt (rw_ HO190.out))) (below_size (hb_ HB))); replace HO190 := Aside0.mk (Kd.R_elder' (rw_ HO190.out) (Kd.R_base ho0) hb); replace HB := bs_ HB hb; (try clear hb); (try clear hb2); (try clear hk); (try clear hi); (try clear ho0)) | ((with_reducible refine gate_dst (N := 1) rfl ?_); (try (refine gate_guard (by rfl) ?_; dsimp only)); refine be_ (N := 1) (cs := #[.slice none 0 0, .int .i64 0]) (t := 46) (h := ?_); intro gb197 hg w18 hbox hb; have BK197 := Aside0.mk (hbox); have GW197 := gw_ HB hg; have GE197 := gw_ HB hg; replace HO190 := Aside0.mk (Kd.R_below (rw_ HO190.out) hb); replace HO194 := Aside0.mk (Kd.R_below (rw_ HO194.out) hb); replace HB := bs_ HB hb; clear hb hbox hg; obtain ⟨Ao19, co19, eo19⟩ := Kd.R_slice HO194.out; subst eo19; obtain ⟨hcz20_0, hcz20_1, hfz20_0, hfz20_1⟩ := bc2_ BK197) | ((with_reducible refine gate_callee (f := 42) rfl ?_); refine ge_ (some 16) rfl rfl Try.func42 (by kernel_rfl) rfl #[.agg #[.slice Ao19 t192.length co19, .int .i64 t195]] rfl (h := ?_); (with_reducible refine (tree_Undo.calls k _ _ t192 t195 t198 t201 t202 true _ ?side1 ?side2 A3.out).mono ?_); (case side1 => refine (Kd.R_reads' (e := 69) (base := w.heap.size) (ok := fun k_ => (True ∧ some k_ ≠ (.slice Ao16 t188.length co16 : Value).ownBlock)) (n := t192.length) (c := co19) ?_).2.2; exact (by (with_reducible repeat (first | apply Kd.R_alloc | apply Kd.R_drewN | apply Kd.R_drew)); exact (Kd.R_mono (rf_ (Kd.R_types HO194.out BK197.out (by decide)) (fun _ hk => hk.2)) (fun _ h_ => h_.1)))); (case side2 => exact (Kd.R_reads' HO194.out).2.1); rintro e w21 ⟨v199, rfl, ho0, hb⟩; refine ⟨_, rfl, ?_⟩; have HO200 := Aside0.mk (Kd.R_lower (Kd.R_new' (Kd.R_new' ho0 (Kd.R_lt (by (with_reducible repeat (first | apply Kd.R_alloc | apply Kd.R_drewN | apply Kd.R_drew)); exact (Kd.R_mono (rf_ (Kd.R_types HO190.out BK197.out (by decide)) (fun _ hk => hk.2)) (fun _ h_ => h_.1))))) (Kd.R_lt (by (with_reducible repeat (first | apply Kd.R_alloc | apply Kd.R_drewN | apply Kd.R_drew)); exact (Kd.R_mono (rf_ (Kd.R_types HO194.out BK197.out (by decide)) (fun _ hk => hk.2)) (fun _ h_ => h_.1))))) (below_size (hb_ HB))); replace HO190 := Aside0.mk (Kd.R_elder' (by (with_reducible repeat (first | apply Kd.R_alloc | apply Kd.R_drewN | apply Kd.R_drew)); exact (Kd.R_mono (rf_ (Kd.R_types HO190.out BK197.out (by decide)) (fun _ hk => hk.2)) (fun _ h_ => h_.1))) (Kd.R_base ho0) hb); replace HO194 := Aside0.mk (Kd.R_elder' (by (with_reducible repeat (first | apply Kd.R_alloc | apply Kd.R_drewN | apply Kd.R_drew)); exact (Kd.R_mono (rf_ (Kd.R_types HO194.out BK197.out (by decide)) (fun _ hk => hk.2)) (fun _ h_ => h_.1))) (Kd.R_base ho0) hb); replace HB := bs_ HB hb; replace BK197 := Aside0.mk (blk_below (g := gb197) (o := .cells #[.slice Ao19 t192.length co19, .int .i64 t195] 46 (0, 0)) (bp_ BK197.out) hb); (try clear hb); (try clear hb2); (try clear hk); (try clear hi); (try clear ho0)) | ((with_reducible refine gate_dst (N := 3) rfl ?_); (try (refine gate_guard (by rfl) ?_; dsimp only)); refine be_ (N := 3) (cs := #[.slice none 0 0, .int .i64 0]) (t := 46) (h := ?_); intro gb204 hg w22 hbox hb; have BK204 := Aside0.mk (hbox); have GW204 := gw_ HB hg; have GE204 := gw_ HB hg; have NB197_204 := ne_ BK197 hg; have NB204_197 := en_ BK197 hg; replace HO190 := Aside0.mk (Kd.R_below (rw_ HO190.out) hb); replace HO194 := Aside0.mk (Kd.R_below (rw_ HO194.out) hb); replace HO200 := Aside0.mk (Kd.R_below (rw_ HO200.out) hb); replace BK197 := bb_ BK197 hb; replace HB := bs_ HB hb; clear hb hbox hg; obtain ⟨Ao23, co23, eo23⟩ := Kd.R_slice HO200.out; subst eo23; have hnb24 := NB204_197.out; have hnc24 := NB197_204.out; obtain ⟨hcz25_0, hcz25_1, hfz25_0, hfz25_1⟩ := bc2_ BK204) | ((with_reducible refine gate_callee (f := 34) rfl ?_); refine ge_ (some 23) rfl rfl Try.func34 (by kernel_rfl) rfl #[.agg #[.slice Ao23 t198.length co23, .int .i64 t201], .agg #[.int .i64 0, .string (⟨#[]⟩ : ByteArray), .string (⟨#[98]⟩ : ByteArray)], .int .i64 0, .int .i64 1] rfl (h := ?_); (with_reducible refine (tree_Add.calls k _ _ t198 t201 0 (⟨#[]⟩ : ByteArray) (⟨#[98]⟩ : ByteArray) 0 1 t205 t208 t209 _ ?side1 ?side2 A4.out).mono ?_); (case side1 => refine (Kd.R_reads' (e := 69) (base := w.heap.size) (ok := fun k_ => ((True ∧ some k_ ≠ (.slice Ao16 t188.length co16 : Value).ownBlock) ∧ some k_ ≠ (.slice Ao19 t192.length co19 : Value).ownBlock)) (n := t198.length) (c := co23) ?_).2.2; exact (by (with_reducible repeat (first | apply Kd.R_alloc | apply Kd.R_drewN | apply Kd.R_drew)); exact (Kd.R_mono (rf_ (Kd.R_types HO200.out BK204.out (by decide)) (fun _ hk => hk.2)) (fun _ h_ => h_.1)))); (case side2 => exact (Kd.R_reads' HO200.out).2.1); rintro e w26 ⟨v206, rfl, ho0, hb⟩; refine ⟨_, rfl, ?_⟩; have HO207 := Aside0.mk (Kd.R_lower (Kd.R_new' (Kd.R_new' (Kd.R_new' ho0 (Kd.R_lt (by (with_reducible repeat (first | apply Kd.R_alloc | apply Kd.R_drewN | apply Kd.R_drew)); exact (Kd.R_mono (rf_ (Kd.R_types HO190.out BK204.out (by decide)) (fun _ hk => hk.2)) (fun _ h_ => h_.1))))) (Kd.R_lt (by (with_reducible repeat (first | apply Kd.R_alloc | apply Kd.R_drewN | apply Kd.R_drew)); exact (Kd.R_mono (rf_ (Kd.R_types HO194.out BK204.out (by decide)) (fun _ hk => hk.2)) (fun _ h_ => h_.1))))) (Kd.R_lt (by (with_reducible repeat (first | apply Kd.R_alloc | apply Kd.R_drewN | apply Kd.R_drew)); exact (Kd.R_mono (rf_ (Kd.R_types HO200.out BK204.out (by decide)) (fun _ hk => hk.2)) (fun _ h_ => h_.1))))) (below_size (hb_ HB))); replace HO190 := Aside0.mk (Kd.R_elder' (by (with_reducible repeat (first | apply Kd.R_alloc | apply Kd.R_drewN | apply Kd.R_drew)); exact (Kd.R_mono (rf_ (Kd.R_types HO190.out BK204.out (by decide)) (fun _ hk => hk.2)) (fun _ h_ => h_.1))) (Kd.R_base ho0) hb); replace HO194 := Aside0.mk (Kd.R_elder' (by (with_reducible repeat (first | apply Kd.R_alloc | apply Kd.R_drewN | apply Kd.R_drew)); exact (Kd.R_mono (rf_ (Kd.R_types HO194.out BK204.out (by decide)) (fun _ hk => hk.2)) (fun _ h_ => h_.1))) (Kd.R_base ho0) hb); replace HO200 := Aside0.mk (Kd.R_elder' (by (with_reducible repeat (first | apply Kd.R_alloc | apply Kd.R_drewN | apply Kd.R_drew)); exact (Kd.R_mono (rf_ (Kd.R_types HO200.out BK204.out (by decide)) (fun _ hk => hk.2)) (fun _ h_ => h_.1))) (Kd.R_base ho0) hb); replace BK197 := Aside0.mk (blk_below (g := gb197) (o := .cells #[.slice Ao19 t192.length co19, .int .i64 t195] 46 (0, 0)) (bp_ BK197.out) hb); replace HB := bs_ HB hb; replace BK204 := Aside0.mk (blk_below (g := gb204) (o := .cells #[.slice Ao23 t198.length co23, .int .i64 t201] 46 (0, 0)) (bp_ BK204.out) hb); (try clear hb); (try clear hb2); (try clear hk); (try clear hi); (try clear ho0)) | ((with_reducible refine gate_dst (N := 6) rfl ?_); (try (refine gate_guard (by rfl) ?_; dsimp only)); refine be_ (N := 6) (cs := #[.slice none 0 0, .int .i64 0]) (t := 46) (h := ?_); intro gb210 hg w27 hbox hb; have BK210 := Aside0.mk (hbox); have GW210 := gw_ HB hg; have GE210 := gw_ HB hg; have NB197_210 := ne_ BK197 hg; have NB210_197 := en_ BK197 hg; have NB204_210 := ne_ BK204 hg; have NB210_204 := en_ BK204 hg; replace HO190 := Aside0.mk (Kd.R_below (rw_ HO190.out) hb); replace HO194 := Aside0.mk (Kd.R_below (rw_ HO194.out) hb); replace HO200 := Aside0.mk (Kd.R_below (rw_ HO200.out) hb); replace HO207 := Aside0.mk (Kd.R_below (rw_ HO207.out) hb); replace BK197 := bb_ BK197 hb; replace BK204 := bb_ BK204 hb; replace HB := bs_ HB hb; clear hb hbox hg; obtain ⟨Ao28, co28, eo28⟩ := Kd.R_slice HO207.out; subst eo28; have hnb29 := NB210_197.out; have hnc29 := NB197_210.out; have hnb30 := NB210_204.out; have hnc30 := NB204_210.out; obtain ⟨hcz31_0, hcz31_1, hfz31_0, hfz31_1⟩ := bc2_ BK210) | (go_at_call 47; (with_reducible refine (tree_Kids.calls k _ _ t205 t208 0 t211 _ ?side1 ?side2 A9.out).mono ?_); (case side1 => refine (Kd.R_reads' (e := 69) (base := w.heap.size) (ok := fun k_ => (((True ∧ some k_ ≠ (.slice Ao16 t188.length co16 : Value).ownBlock) ∧ some k_ ≠ (.slice Ao19 t192.length co19 : Value).ownBlock) ∧ some k_ ≠ (.slice Ao23 t198.length co23 : Value).ownBlock)) (n := t205.length) (c := co28) ?_).2.2; exact (by (with_reducible repeat (first | apply Kd.R_alloc | apply Kd.R_drewN | apply Kd.R_drew)); exact (Kd.R_mono (rf_ (Kd.R_types HO207.out BK210.out (by decide)) (fun _ hk => hk.2)) (fun _ h_ => h_.1)))); (case side2 => exact (Kd.R_reads' HO207.out).2.1); rintro e w32 ⟨v212, rfl, ho0, hb⟩; have HO213 := Aside0.mk (Kd.R_lower ho0 (below_size (hb_ HB))); replace HO190 := Aside0.mk (Kd.R_below (by (with_reducible repeat (first | apply Kd.R_alloc | apply Kd.R_drewN | apply Kd.R_drew)); exact (Kd.R_mono (rf_ (Kd.R_types HO190.out BK210.out (by decide)) (fun _ hk => hk.2)) (fun _ h_ => h_.1))) hb); replace HO194 := Aside0.mk (Kd.R_below (by (with_reducible repeat (first | apply Kd.R_alloc | apply Kd.R_drewN | apply Kd.R_drew)); exact (Kd.R_mono (rf_ (Kd.R_types HO194.out BK210.out (by decide)) (fun _ hk => hk.2)) (fun _ h_ => h_.1))) hb); replace HO200 := Aside0.mk (Kd.R_below (by (with_reducible repeat (first | apply Kd.R_alloc | apply Kd.R_drewN | apply Kd.R_drew)); exact (Kd.R_mono (rf_ (Kd.R_types HO200.out BK210.out (by decide)) (fun _ hk => hk.2)) (fun _ h_ => h_.1))) hb); replace HO207 := Aside0.mk (Kd.R_below (by (with_reducible repeat (first | apply Kd.R_alloc | apply Kd.R_drewN | apply Kd.R_drew)); exact (Kd.R_mono (rf_ (Kd.R_types HO207.out BK210.out (by decide)) (fun _ hk => hk.2)) (fun _ h_ => h_.1))) hb); replace BK197 := Aside0.mk (blk_below (g := gb197) (o := .cells #[.slice Ao19 t192.length co19, .int .i64 t195] 46 (0, 0)) (bp_ BK197.out) hb); replace BK204 := Aside0.mk (blk_below (g := gb204) (o := .cells #[.slice Ao23 t198.length co23, .int .i64 t201] 46 (0, 0)) (bp_ BK204.out) hb); replace HB := bs_ HB hb; replace BK210 := Aside0.mk (blk_below (g := gb210) (o := .cells #[.slice Ao28 t205.length co28, .int .i64 t208] 46 (0, 0)) (bp_ BK210.out) hb); (try clear hb); (try clear hb2); (try clear hk); (try clear hi); (try clear ho0)) | ((with_reducible refine gate_dst (N := 42) rfl ?_); (try (refine gate_guard (by rfl) ?_; dsimp only)); refine Kd.R_lit (Kd.int .i64) _ 3 ?hg (N := 42) ?hd (xs := ([1, 2] : List Int)) (inner := [.int .i64 1, .int .i64 2]) (ok := fun _ => True) (okp := fun _ => True) ?hr ?hp (fun _ hk => hk) trivial (Below.refl _ _) (Nat.le_refl _) (by simp) ?_; (case hd => rfl); (case hg => rfl); (case hr => first | (go_simp; done) | (go_simp; rfl)); (case hp => exact (Reps.one (show Kd.M (Kd.int .i64) _ _ _ 1 [.int .i64 1] from rfl) (Reps.one (show Kd.M (Kd.int .i64) _ _ _ 2 [.int .i64 2] from rfl) (Reps.none _ _)))); intro v215 w33 ho34 hb hg_ hnew_; clear hg_ hnew_; (first | rw [← Ny214.out] at ho34 | (simp only [Int.reduceToNat] at ho34; rw [← Ny214.out] at ho34)); have HO216 := Aside0.mk (Kd.R_lower (Kd.R_new' ho34 (Kd.R_lt (rw_ HO213.out))) (below_size (hb_ HB))); replace HO190 := Aside0.mk (Kd.R_below (rw_ HO190.out) hb); replace HO194 := Aside0.mk (Kd.R_below (rw_ HO194.out) hb); replace HO200 := Aside0.mk (Kd.R_below (rw_ HO200.out) hb); replace HO207 := Aside0.mk (Kd.R_below (rw_ HO207.out) hb); replace HO213 := Aside0.mk (Kd.R_elder' (rw_ HO213.out) (Kd.R_base ho34) hb); replace BK197 := bb_ BK197 hb; replace BK204 := bb_ BK204 hb; replace BK210 := bb_ BK210 hb; replace HB := bs_ HB hb; clear hb ho34; obtain ⟨Ao35, co35, eo35⟩ := Kd.R_slice HO213.out; subst eo35; obtain ⟨Ao36, co36, eo36⟩ := Kd.R_slice HO216.out; subst eo36) | (go_at_call 46; (with_reducible refine (calamusref01_Same.calls k _ _ t211 _ _ y214 true _ ?side1 ?side2 ?side3 ?side4 A10.out).mono ?_); (case side1 => repeat (first | exact (Kd.R_reads' HO213.out).2.2 | (with_reducible refine Kd.C_alloc ?_ _) | (with_reducible refine Kd.C_drewN ?_ _) | (with_reducible refine Kd.C_drew ?_))); (case side2 => exact (Kd.R_reads' HO213.out).2.1); (case side3 => repeat (first | exact (Kd.R_reads' HO216.out).2.2 | (with_reducible refine Kd.C_alloc ?_ _) | (with_reducible refine Kd.C_drewN ?_ _) | (with_reducible refine Kd.C_drew ?_))); (case side4 => exact (Kd.R_reads' HO216.out).2.1); rintro e w' ⟨rfl, ⟨nd, rfl⟩⟩; obtain ⟨hcz37_0, hcz37_1, hfz37_0, hfz37_1⟩ := bc2_ BK210; have p218 : 0 ≤ (0 : Int) := (by omega); have q218 : 0 < (t205.length : Int) := of_decide_eq_true as_; obtain ⟨ad218, e218, hx218_0, hx218_1, hx218_2, hx218_3, hx218_4, hx218_5, hx218_6⟩ := at_T69 (Kd.R_reads' HO207.out).2.2 0 p218 q218; cases e218; have qi218 : (0 < t205.length) = True := eq_true (by omega); (try rw [show ((0 : Int)).toNat = 0 from rfl] at hx218_0); (try rw [show 0 * 7 = 0 from rfl] at hx218_0); (try rw [Addr.add_zero'] at hx218_0); (try rw [show ((0 : Int)).toNat = 0 from rfl] at hx218_1); (try rw [show 0 * 7 = 0 from rfl] at hx218_1); (try rw [Addr.add_zero'] at hx218_1); (try rw [show ((0 : Int)).toNat = 0 from rfl] at hx218_2); (try rw [show 0 * 7 = 0 from rfl] at hx218_2); (try rw [Addr.add_zero'] at hx218_2); (try rw [show ((0 : Int)).toNat = 0 from rfl] at hx218_3); (try rw [show 0 * 7 = 0 from rfl] at hx218_3); (try rw [Addr.add_zero'] at hx218_3); (try rw [show ((0 : Int)).toNat = 0 from rfl] at hx218_4); (try rw [show 0 * 7 = 0 from rfl] at hx218_4); (try rw [Addr.add_zero'] at hx218_4); (try rw [show ((0 : Int)).toNat = 0 from rfl] at hx218_5); (try rw [show 0 * 7 = 0 from rfl] at hx218_5); (try rw [Addr.add_zero'] at hx218_5); (try rw [show ((0 : Int)).toNat = 0 from rfl] at hx218_6); (try rw [show 0 * 7 = 0 from rfl] at hx218_6); (try rw [Addr.add_zero'] at hx218_6); replace p218 := eq_true p218; replace q218 := eq_true q218))
         go_ret
         exact ⟨er_, hb_ HB⟩
        ·rw [if_neg c14] at H
         exact absurd H (by simp)
       ·rw [if_neg c13] at H
        have c13b0 : ((t205.length : Int) == 3) = false := beq_eq_false_iff_ne.mpr c13
        have c13b1 : ((t205.length : Int) != 3) = true := bne_iff_ne.mpr c13
        exact nf_ H hr_
      ·rw [if_neg c12] at H
       have c12b0 : (t208 == 2) = false := beq_eq_false_iff_ne.mpr c12
       have c12b1 : (t208 != 2) = true := bne_iff_ne.mpr c12
       exact nf_ H hr_
     ·replace c11 := Bool.eq_false_iff.mpr c11
      subst c11
      have H1 : (some false) = some r := by rw [if_neg (show ¬ (false = true) by decide)] at H; exact H
      clear H
      have H := H1
      clear H1
      exact nf_ H hr_
    ·rw [if_neg c8] at H
     have c8b0 : (t209 == 0) = false := beq_eq_false_iff_ne.mpr c8
     have c8b1 : (t209 != 0) = true := bne_iff_ne.mpr c8
     exact nf_ H hr_
   ·replace c7 := Bool.eq_false_iff.mpr c7
    subst c7
    have H1 : (some false) = some r := by rw [if_neg (show ¬ (false = true) by decide)] at H; exact H
    clear H
    have H := H1
    clear H1
    exact nf_ H hr_
  ·rw [if_neg c6] at H
   have c6b0 : (t202 == 1) = false := beq_eq_false_iff_ne.mpr c6
   have c6b1 : (t202 != 1) = true := bne_iff_ne.mpr c6
   exact nf_ H hr_
 ·rw [if_neg c5] at H
  have c5b0 : (t196 == 0) = false := beq_eq_false_iff_ne.mpr c5
  have c5b1 : (t196 != 0) = true := bne_iff_ne.mpr c5
  exact nf_ H hr_
/-! ### calamusref11_Same: function 38 -/
mutual
def calamusref11_Same.j0 : Nat → Bool → List (S69) → Int → List (S69) → Int → Option (Bool)
 | 0, _, _, _, _, _ => none
 | k + 1, x19, x220000, x220001, x221000, x221001 => if x19 = true then (some false) else (calamusref11_Same.l0 k 0 x220000 x220001 x221000 x221001)
def calamusref11_Same.l0 : Nat → Int → List (S69) → Int → List (S69) → Int → Option (Bool)
 | 0, _, _, _, _, _ => none
 | k + 1, x5, x220000, x220001, x221000, x221001 => if x5 < (x220000.length : Int) then (if 0 ≤ x5 then (if x5 < (x221000.length : Int) then (if (!(((rd_T69 x220000 x5).f0) == ((rd_T69 x221000 x5).f0)) || (!(((rd_T69 x220000 x5).f1) == ((rd_T69 x221000 x5).f1)) || (!(((rd_T69 x220000 x5).f2) == ((rd_T69 x221000 x5).f2)) || (!(((rd_T69 x220000 x5).f3) == ((rd_T69 x221000 x5).f3)) || ((!(((rd_T69 x220000 x5).f4.f0) == ((rd_T69 x221000 x5).f4.f0)) || (!((((rd_T69 x220000 x5).f4.f1).toList) == (((rd_T69 x221000 x5).f4.f1).toList)) || (!((((rd_T69 x220000 x5).f4.f2).toList) == (((rd_T69 x221000 x5).f4.f2).toList)))))))))) = true then (some false) else (calamusref11_Same.l0 k (wrap64 (x5 + 1)) x220000 x220001 x221000 x221001)) else (none)) else (none)) else (some true)
end
def calamusref11_Same.f (k : Nat) (l0_0 : List (S69)) (a0_1 : Int) (l1_0 : List (S69)) (a1_1 : Int) : Option (Bool) := if a0_1 = a1_1 then (calamusref11_Same.j0 k ((l0_0.length : Int) != (l1_0.length : Int)) l0_0 a0_1 l1_0 a1_1) else (calamusref11_Same.j0 k true l0_0 a0_1 l1_0 a1_1)
theorem calamusref11_Same.mono_l : ∀ k, (∀ y0 y1 y2 y3 y4, LeO (calamusref11_Same.j0 k y0 y1 y2 y3 y4) (calamusref11_Same.j0 (k + 1) y0 y1 y2 y3 y4)) ∧ (∀ y0 y1 y2 y3 y4, LeO (calamusref11_Same.l0 k y0 y1 y2 y3 y4) (calamusref11_Same.l0 (k + 1) y0 y1 y2 y3 y4))
 | 0 => ⟨fun _ _ _ _ _ r h => by simp [calamusref11_Same.j0] at h, fun _ _ _ _ _ r h => by simp [calamusref11_Same.l0] at h⟩
 | k + 1 => by
  obtain ⟨ih0, ih1⟩ := calamusref11_Same.mono_l k
  refine ⟨?_, ?_⟩
  ·intro y0 y1 y2 y3 y4
   unfold calamusref11_Same.j0
   repeat' first
   | (with_reducible exact ih0 _ _ _ _ _)
   | (with_reducible exact ih1 _ _ _ _ _)
   | (with_reducible exact LeO.refl _)
   | (with_reducible exact LeO.none _)
   | (with_reducible refine LeO.ite ?_ ?_)
   | (with_reducible refine LeO.bind ?_ (fun _ => ?_))
   | exact ih0 _ _ _ _ _
   | exact ih1 _ _ _ _ _
   | exact LeO.none _
   | refine LeO.ite ?_ ?_
   | refine LeO.bind ?_ (fun _ => ?_)
  ·intro y0 y1 y2 y3 y4
   unfold calamusref11_Same.l0
   repeat' first
   | (with_reducible exact ih0 _ _ _ _ _)
   | (with_reducible exact ih1 _ _ _ _ _)
   | (with_reducible exact LeO.refl _)
   | (with_reducible exact LeO.none _)
   | (with_reducible refine LeO.ite ?_ ?_)
   | (with_reducible refine LeO.bind ?_ (fun _ => ?_))
   | exact ih0 _ _ _ _ _
   | exact ih1 _ _ _ _ _
   | exact LeO.none _
   | refine LeO.ite ?_ ?_
   | refine LeO.bind ?_ (fun _ => ?_)
theorem calamusref11_Same.mono : ∀ a0 a1 a2 a3 k, LeO (calamusref11_Same.f k a0 a1 a2 a3) (calamusref11_Same.f (k + 1) a0 a1 a2 a3) := by
 intro a0 a1 a2 a3 k
 obtain ⟨ih0, ih1⟩ := calamusref11_Same.mono_l k
 unfold calamusref11_Same.f
 repeat' first
   | (with_reducible exact ih0 _ _ _ _ _)
   | (with_reducible exact ih1 _ _ _ _ _)
   | (with_reducible exact LeO.refl _)
   | (with_reducible exact LeO.none _)
   | (with_reducible refine LeO.ite ?_ ?_)
   | (with_reducible refine LeO.bind ?_ (fun _ => ?_))
   | exact ih0 _ _ _ _ _
   | exact ih1 _ _ _ _ _
   | exact LeO.none _
   | refine LeO.ite ?_ ?_
   | refine LeO.bind ?_ (fun _ => ?_)
set_option maxHeartbeats 8000000 in
set_option maxRecDepth 100000 in
theorem calamusref11_Same.calls (k : Nat) (A0_0 : Option Addr) (c0_0 : Nat) (l0_0 : List (S69)) (a0_1 : Int) (A1_0 : Option Addr) (c1_0 : Nat) (l1_0 : List (S69)) (a1_1 : Int) (r : Bool) (w : World) (hr0_0 : Kd.C k69 w A0_0 l0_0.length l0_0) (hc0_0 : l0_0.length ≤ c0_0) (hr1_0 : Kd.C k69 w A1_0 l1_0.length l1_0) (hc1_0 : l1_0.length ≤ c1_0) (h : calamusref11_Same.f k l0_0 a0_1 l1_0 a1_1 = some r) :
  Calls Try.prog 38 #[.agg #[.slice A0_0 l0_0.length c0_0, .int .i64 a0_1], .agg #[.slice A1_0 l1_0.length c1_0, .int .i64 a1_1]] w fun e w' => e = .returned (.bool r) ∧ Below w.heap.size w w' := by
 have hu46 := Try.underlying46
 have hu69 := Try.underlying69
 have HR0_0 := Aside0.mk hr0_0
 have HC0_0 := Aside0.mk hc0_0
 clear hr0_0 hc0_0
 have HR1_0 := Aside0.mk hr1_0
 have HC1_0 := Aside0.mk hc1_0
 clear hr1_0 hc1_0
 have HB := Aside0.mk (Below.refl w.heap.size w)
 have H : (if a0_1 = a1_1 then (calamusref11_Same.j0 k ((l0_0.length : Int) != (l1_0.length : Int)) l0_0 a0_1 l1_0 a1_1) else (calamusref11_Same.j0 k true l0_0 a0_1 l1_0 a1_1)) = some r := h
 clear h
 have HC3 := Aside0.mk H
 clear H
 go_enter Try.func38, Try.ntmps38
 go_upto_region 1 with (first | ((with_reducible refine gate_dst (N := 2) rfl ?_); (try (refine gate_guard (by rfl) ?_; dsimp only)); refine be_ (N := 2) (cs := #[.slice A0_0 l0_0.length c0_0, .int .i64 a0_1]) (t := 46) (h := ?_); intro gb219 hg w4 hbox hb; have BK219 := Aside0.mk (hbox); have GW219 := gw_ HB hg; have GE219 := gw_ HB hg; replace HB := bs_ HB hb; clear hb hbox hg) | ((with_reducible refine gate_dst (N := 3) rfl ?_); (try (refine gate_guard (by rfl) ?_; dsimp only)); refine be_ (N := 3) (cs := #[.slice A1_0 l1_0.length c1_0, .int .i64 a1_1]) (t := 46) (h := ?_); intro gb220 hg w5 hbox hb; have BK220 := Aside0.mk (hbox); have GW220 := gw_ HB hg; have GE220 := gw_ HB hg; have NB219_220 := ne_ BK219 hg; have NB220_219 := en_ BK219 hg; replace BK219 := bb_ BK219 hb; replace HB := bs_ HB hb; clear hb hbox hg))
 repeat (go_quiet (first | ((with_reducible refine gate_dst (N := 2) rfl ?_); (try (refine gate_guard (by rfl) ?_; dsimp only)); refine be_ (N := 2) (cs := #[.slice A0_0 l0_0.length c0_0, .int .i64 a0_1]) (t := 46) (h := ?_); intro gb219 hg w4 hbox hb; have BK219 := Aside0.mk (hbox); have GW219 := gw_ HB hg; have GE219 := gw_ HB hg; replace HB := bs_ HB hb; clear hb hbox hg) | ((with_reducible refine gate_dst (N := 3) rfl ?_); (try (refine gate_guard (by rfl) ?_; dsimp only)); refine be_ (N := 3) (cs := #[.slice A1_0 l1_0.length c1_0, .int .i64 a1_1]) (t := 46) (h := ?_); intro gb220 hg w5 hbox hb; have BK220 := Aside0.mk (hbox); have GW220 := gw_ HB hg; have GE220 := gw_ HB hg; have NB219_220 := ne_ BK219 hg; have NB220_219 := en_ BK219 hg; replace BK219 := bb_ BK219 hb; replace HB := bs_ HB hb; clear hb hbox hg)); go_upto_region 1 with (first | ((with_reducible refine gate_dst (N := 2) rfl ?_); (try (refine gate_guard (by rfl) ?_; dsimp only)); refine be_ (N := 2) (cs := #[.slice A0_0 l0_0.length c0_0, .int .i64 a0_1]) (t := 46) (h := ?_); intro gb219 hg w4 hbox hb; have BK219 := Aside0.mk (hbox); have GW219 := gw_ HB hg; have GE219 := gw_ HB hg; replace HB := bs_ HB hb; clear hb hbox hg) | ((with_reducible refine gate_dst (N := 3) rfl ?_); (try (refine gate_guard (by rfl) ?_; dsimp only)); refine be_ (N := 3) (cs := #[.slice A1_0 l1_0.length c1_0, .int .i64 a1_1]) (t := 46) (h := ?_); intro gb220 hg w5 hbox hb; have BK220 := Aside0.mk (hbox); have GW220 := gw_ HB hg; have GE220 := gw_ HB hg; have NB219_220 := ne_ BK219 hg; have NB220_219 := en_ BK219 hg; replace BK219 := bb_ BK219 hb; replace HB := bs_ HB hb; clear hb hbox hg)))
 (try simp only [Act.put, List.setIfInBounds_toArray, List.set_cons_zero, List.set_cons_succ])
 go_cut [19] (fun v19 wc => ∃ (kq : Nat) (x19_2 : Bool), v19 = .bool x19_2 ∧ Aside0 (calamusref11_Same.j0 kq x19_2 l0_0 a0_1 l1_0 a1_1 = some r) ∧ Aside0 (kq ≤ k) ∧ Aside0 (wc.heap[gb219]? = some (.cells #[(.slice A0_0 l0_0.length c0_0), .int .i64 a0_1] 46 (0, 0))) ∧ Aside0 (wc.heap[gb220]? = some (.cells #[(.slice A1_0 l1_0.length c1_0), .int .i64 a1_1] 46 (0, 0))) ∧ Aside0 (Below w.heap.size w wc))
 case first =>
  have H := HC3.out
  clear HC3
  by_cases c6 : a0_1 = a1_1
  ·rw [if_pos c6] at H
   have c6b0 : (a0_1 == a1_1) = true := beq_iff_eq.mpr c6
   have c6b1 : (a0_1 != a1_1) = false := bne_eq_false_iff_eq.mpr c6
   clear c6
   (first | rw [c6b0] | (simp only [i64_w, i32_w]; rw [c6b0]) | skip)
   have H' := Aside0.mk H
   clear H
   have hnb7 := NB219_220.out
   have hnc7 := NB220_219.out
   obtain ⟨hcz8_0, hcz8_1, hfz8_0, hfz8_1⟩ := bc2_ BK219
   obtain ⟨hcz9_0, hcz9_1, hfz9_0, hfz9_1⟩ := bc2_ BK220
   go_wp2
   repeat (go_quiet (fail); try go_wp2)
   go_meet
   case rel => exact ⟨_, (((l0_0.length : Int) != (l1_0.length : Int))), es_, H', ⟨by first | omega | exact Nat.le_refl _⟩, ⟨bw_ BK219.out⟩, ⟨bw_ BK220.out⟩, ⟨hb_ HB⟩⟩
  ·rw [if_neg c6] at H
   have c6b0 : (a0_1 == a1_1) = false := beq_eq_false_iff_ne.mpr c6
   have c6b1 : (a0_1 != a1_1) = true := bne_iff_ne.mpr c6
   (first | rw [c6b0] | (simp only [i64_w, i32_w]; rw [c6b0]) | skip)
   have H' := Aside0.mk H
   clear H
   have hnb10 := NB219_220.out
   have hnc10 := NB220_219.out
   obtain ⟨hcz11_0, hcz11_1, hfz11_0, hfz11_1⟩ := bc2_ BK219
   obtain ⟨hcz12_0, hcz12_1, hfz12_0, hfz12_1⟩ := bc2_ BK220
   go_wp2
   repeat (go_quiet (fail); try go_wp2)
   go_meet
   case rel => exact ⟨_, (true), es_, H', ⟨by first | omega | exact Nat.le_refl _⟩, ⟨bw_ BK219.out⟩, ⟨bw_ BK220.out⟩, ⟨hb_ HB⟩⟩
 case rest =>
  clear HC3
  obtain ⟨kq, x19_2, rfl, HA, HJ2, BK219, BK220, HB⟩ := hcut
  cases kq with
  | zero => exact absurd HA.out (by simp [calamusref11_Same.j0])
  | succ kj2 =>
   have H := HA.out
   clear HA
   simp only [calamusref11_Same.j0] at H
   by_cases c13 : x19_2 = true
   ·subst c13
    have H1 : (some false) = some r := by rw [if_pos rfl] at H; exact H
    clear H
    have H := H1
    clear H1
    obtain rfl := Option.some.inj H
    go_wp2
    repeat (go_quiet (fail); try go_wp2)
    go_ret
    exact ⟨er_, hb_ HB⟩
   ·replace c13 := Bool.eq_false_iff.mpr c13
    subst c13
    have H1 : (calamusref11_Same.l0 kj2 0 l0_0 a0_1 l1_0 a1_1) = some r := by rw [if_neg (show ¬ (false = true) by decide)] at H; exact H
    clear H
    have H := H1
    clear H1
    have H' := Aside0.mk H
    clear H
    go_wp2
    repeat (go_quiet (fail); try go_wp2)
    go_loopg [5] kj2 (fun kq v5 w' => ∃ (x5_2 : Int), v5 = .int .i64 x5_2 ∧ Aside0 (calamusref11_Same.l0 kq x5_2 l0_0 a0_1 l1_0 a1_1 = some r) ∧ Aside0 (kq ≤ kj2) ∧ Aside0 (w'.heap[gb219]? = some (.cells #[(.slice A0_0 l0_0.length c0_0), .int .i64 a0_1] 46 (0, 0))) ∧ Aside0 (w'.heap[gb220]? = some (.cells #[(.slice A1_0 l1_0.length c1_0), .int .i64 a1_1] 46 (0, 0))) ∧ Aside0 (Below w.heap.size w w'))
    case atStart => exact ⟨(0), es_, H', ⟨Nat.le_refl _⟩, ⟨bw_ BK219.out⟩, ⟨bw_ BK220.out⟩, ⟨hb_ HB⟩⟩
    case round =>
     clear H'
     try clear c13
     obtain ⟨x5_2, rfl, HA, HK2, BK219, BK220, HB⟩ := hrel
     cases gk with
     | zero => exact absurd HA.out (by simp [calamusref11_Same.l0])
     | succ k2 =>
      have H := HA.out
      clear HA
      simp only [calamusref11_Same.l0] at H
      by_cases c14 : x5_2 < (l0_0.length : Int)
      ·rw [if_pos c14] at H
       have c14b0 : decide (x5_2 < (l0_0.length : Int)) = true := decide_eq_true c14
       clear c14
       by_cases c15 : 0 ≤ x5_2
       ·rw [if_pos c15] at H
        have c15b0 : decide (0 ≤ x5_2) = true := decide_eq_true c15
        clear c15
        by_cases c16 : x5_2 < (l1_0.length : Int)
        ·rw [if_pos c16] at H
         have c16b0 : decide (x5_2 < (l1_0.length : Int)) = true := decide_eq_true c16
         clear c16
         by_cases c17 : (!(((rd_T69 l0_0 x5_2).f0) == ((rd_T69 l1_0 x5_2).f0)) || (!(((rd_T69 l0_0 x5_2).f1) == ((rd_T69 l1_0 x5_2).f1)) || (!(((rd_T69 l0_0 x5_2).f2) == ((rd_T69 l1_0 x5_2).f2)) || (!(((rd_T69 l0_0 x5_2).f3) == ((rd_T69 l1_0 x5_2).f3)) || ((!(((rd_T69 l0_0 x5_2).f4.f0) == ((rd_T69 l1_0 x5_2).f4.f0)) || (!((((rd_T69 l0_0 x5_2).f4.f1).toList) == (((rd_T69 l1_0 x5_2).f4.f1).toList)) || (!((((rd_T69 l0_0 x5_2).f4.f2).toList) == (((rd_T69 l1_0 x5_2).f4.f2).toList)))))))))) = true
         ·rw [if_pos c17] at H
          have c17b0 : (!(((rd_T69 l0_0 x5_2).f0) == ((rd_T69 l1_0 x5_2).f0)) || (!(((rd_T69 l0_0 x5_2).f1) == ((rd_T69 l1_0 x5_2).f1)) || (!(((rd_T69 l0_0 x5_2).f2) == ((rd_T69 l1_0 x5_2).f2)) || (!(((rd_T69 l0_0 x5_2).f3) == ((rd_T69 l1_0 x5_2).f3)) || ((!(((rd_T69 l0_0 x5_2).f4.f0) == ((rd_T69 l1_0 x5_2).f4.f0)) || (!((((rd_T69 l0_0 x5_2).f4.f1).toList) == (((rd_T69 l1_0 x5_2).f4.f1).toList)) || (!((((rd_T69 l0_0 x5_2).f4.f2).toList) == (((rd_T69 l1_0 x5_2).f4.f2).toList)))))))))) = true := c17
          clear c17
          obtain rfl := Option.some.inj H
          have hnb18 := NB219_220.out
          have hnc18 := NB220_219.out
          obtain ⟨hcz19_0, hcz19_1, hfz19_0, hfz19_1⟩ := bc2_ BK219
          have p221 : 0 ≤ (x5_2 : Int) := of_decide_eq_true as_
          have q221 : x5_2 < (l0_0.length : Int) := of_decide_eq_true as_
          obtain ⟨ad221, e221, hx221_0, hx221_1, hx221_2, hx221_3, hx221_4, hx221_5, hx221_6⟩ := at_T69b HR0_0 HB x5_2 p221 q221
          cases e221
          replace p221 := eq_true p221
          replace q221 := eq_true q221
          obtain ⟨hcz20_0, hcz20_1, hfz20_0, hfz20_1⟩ := bc2_ BK220
          have p222 : 0 ≤ (x5_2 : Int) := of_decide_eq_true as_
          have q222 : x5_2 < (l1_0.length : Int) := of_decide_eq_true as_
          obtain ⟨ad222, e222, hx222_0, hx222_1, hx222_2, hx222_3, hx222_4, hx222_5, hx222_6⟩ := at_T69b HR1_0 HB x5_2 p222 q222
          cases e222
          replace p222 := eq_true p222
          replace q222 := eq_true q222
          go_wp2
          repeat (go_quiet (fail); try go_wp2)
          go_ret
          exact ⟨er_, hb_ HB⟩
         ·rw [if_neg c17] at H
          have c17b0 : (!(((rd_T69 l0_0 x5_2).f0) == ((rd_T69 l1_0 x5_2).f0)) || (!(((rd_T69 l0_0 x5_2).f1) == ((rd_T69 l1_0 x5_2).f1)) || (!(((rd_T69 l0_0 x5_2).f2) == ((rd_T69 l1_0 x5_2).f2)) || (!(((rd_T69 l0_0 x5_2).f3) == ((rd_T69 l1_0 x5_2).f3)) || ((!(((rd_T69 l0_0 x5_2).f4.f0) == ((rd_T69 l1_0 x5_2).f4.f0)) || (!((((rd_T69 l0_0 x5_2).f4.f1).toList) == (((rd_T69 l1_0 x5_2).f4.f1).toList)) || (!((((rd_T69 l0_0 x5_2).f4.f2).toList) == (((rd_T69 l1_0 x5_2).f4.f2).toList)))))))))) = false := by simpa using c17
          clear c17
          have H' := Aside0.mk H
          clear H
          have hnb21 := NB219_220.out
          have hnc21 := NB220_219.out
          obtain ⟨hcz22_0, hcz22_1, hfz22_0, hfz22_1⟩ := bc2_ BK219
          have p221 : 0 ≤ (x5_2 : Int) := of_decide_eq_true as_
          have q221 : x5_2 < (l0_0.length : Int) := of_decide_eq_true as_
          obtain ⟨ad221, e221, hx221_0, hx221_1, hx221_2, hx221_3, hx221_4, hx221_5, hx221_6⟩ := at_T69b HR0_0 HB x5_2 p221 q221
          cases e221
          replace p221 := eq_true p221
          replace q221 := eq_true q221
          obtain ⟨hcz23_0, hcz23_1, hfz23_0, hfz23_1⟩ := bc2_ BK220
          have p222 : 0 ≤ (x5_2 : Int) := of_decide_eq_true as_
          have q222 : x5_2 < (l1_0.length : Int) := of_decide_eq_true as_
          obtain ⟨ad222, e222, hx222_0, hx222_1, hx222_2, hx222_3, hx222_4, hx222_5, hx222_6⟩ := at_T69b HR1_0 HB x5_2 p222 q222
          cases e222
          replace p222 := eq_true p222
          replace q222 := eq_true q222
          go_wp2
          repeat (go_quiet (fail); try go_wp2)
          go_roundg k2
          case measure => have := HJ2.out; have := HK2.out; omega
          case rel => exact ⟨(wrap64 (x5_2 + 1)), es_, H', ⟨by have := HJ2.out; have := HK2.out; omega⟩, ⟨bw_ BK219.out⟩, ⟨bw_ BK220.out⟩, ⟨hb_ HB⟩⟩
        ·rw [if_neg c16] at H
         exact absurd H (by simp)
       ·rw [if_neg c15] at H
        exact absurd H (by simp)
      ·rw [if_neg c14] at H
       have c14b0 : decide (x5_2 < (l0_0.length : Int)) = false := decide_eq_false c14
       clear c14
       obtain rfl := Option.some.inj H
       have hnb24 := NB219_220.out
       have hnc24 := NB220_219.out
       obtain ⟨hcz25_0, hcz25_1, hfz25_0, hfz25_1⟩ := bc2_ BK219
       go_wp2
       repeat (go_quiet (fail); try go_wp2)
       go_ret
       exact ⟨er_, hb_ HB⟩

/-! ### tree_book_up: function 87 -/
def tree_book_up.l0 : Nat → Int → List Int → List (S69) → Int → Option (List Int)
 | 0, _, _, _, _ => none
 | k + 1, x1, x5, x224000, x224001 => if x1 ≥ 0 then (if x5.length < 17592186044416 then (if 0 ≤ x1 then (if x1 < (x224000.length : Int) then (tree_book_up.l0 k ((rd_T69 x224000 x1).f0) (x5 ++ [x1]) x224000 x224001) else (none)) else (none)) else (none)) else (some x5)
def tree_book_up.f (k : Nat) (l0_0 : List (S69)) (a0_1 : Int) (a1 : Int) : Option (List Int) := tree_book_up.l0 k a1 ([] : List Int) l0_0 a0_1
theorem tree_book_up.mono_l : ∀ k, (∀ y0 y1 y2 y3, LeO (tree_book_up.l0 k y0 y1 y2 y3) (tree_book_up.l0 (k + 1) y0 y1 y2 y3))
 | 0 => fun _ _ _ _ r h => by simp [tree_book_up.l0] at h
 | k + 1 => by
  have ih0 := tree_book_up.mono_l k
  ·intro y0 y1 y2 y3
   unfold tree_book_up.l0
   repeat' first
   | (with_reducible exact ih0 _ _ _ _)
   | (with_reducible exact LeO.refl _)
   | (with_reducible exact LeO.none _)
   | (with_reducible refine LeO.ite ?_ ?_)
   | (with_reducible refine LeO.bind ?_ (fun _ => ?_))
   | exact ih0 _ _ _ _
   | exact LeO.none _
   | refine LeO.ite ?_ ?_
   | refine LeO.bind ?_ (fun _ => ?_)
theorem tree_book_up.mono : ∀ a0 a1 a2 k, LeO (tree_book_up.f k a0 a1 a2) (tree_book_up.f (k + 1) a0 a1 a2) := by
 intro a0 a1 a2 k
 have ih0 := tree_book_up.mono_l k
 unfold tree_book_up.f
 repeat' first
   | (with_reducible exact ih0 _ _ _ _)
   | (with_reducible exact LeO.refl _)
   | (with_reducible exact LeO.none _)
   | (with_reducible refine LeO.ite ?_ ?_)
   | (with_reducible refine LeO.bind ?_ (fun _ => ?_))
   | exact ih0 _ _ _ _
   | exact LeO.none _
   | refine LeO.ite ?_ ?_
   | refine LeO.bind ?_ (fun _ => ?_)
set_option maxHeartbeats 8000000 in
set_option maxRecDepth 100000 in
theorem tree_book_up.calls (k : Nat) (A0_0 : Option Addr) (c0_0 : Nat) (l0_0 : List (S69)) (a0_1 : Int) (a1 : Int) (r : List Int) (w : World) (hr0_0 : Kd.C k69 w A0_0 l0_0.length l0_0) (hc0_0 : l0_0.length ≤ c0_0) (h : tree_book_up.f k l0_0 a0_1 a1 = some r) :
  Calls Try.prog 87 #[.agg #[.slice A0_0 l0_0.length c0_0, .int .i64 a0_1], .int .i64 a1] w fun e w' => ∃ v0_ : Value, e = .returned (v0_) ∧ Kd.R (Kd.int .i64) 3 w' w.heap.size (fun _ => True) v0_ r ∧ Below w.heap.size w w' := by
 have hu102 := Try.underlying102
 have HR0_0 := Aside0.mk hr0_0
 have HC0_0 := Aside0.mk hc0_0
 clear hr0_0 hc0_0
 have HB := Aside0.mk (Below.refl w.heap.size w)
 have H : (tree_book_up.l0 k a1 ([] : List Int) l0_0 a0_1) = some r := h
 clear h
 have H' := Aside0.mk H
 clear H
 go_enter Try.func87, Try.ntmps87
 go_wp2_with (first | ((with_reducible refine gate_dst (N := 2) rfl ?_); refine be_ (N := 2) (cs := #[.slice A0_0 l0_0.length c0_0, .int .i64 a0_1]) (t := 102) (h := ?_); intro gb223 hg w3 hbox hb; have BK223 := Aside0.mk (hbox); have GW223 := gw_ HB hg; have GE223 := gw_ HB hg; replace HB := bs_ HB hb; clear hb hbox hg))
 go_loopg [1, 5] k (fun kq v1 v5 w' => ∃ (x1_1 : Int) (x5_1 : List Int), v1 = .int .i64 x1_1 ∧ Aside0 (tree_book_up.l0 kq x1_1 x5_1 l0_0 a0_1 = some r) ∧ Aside0 (kq ≤ k) ∧ Aside0 (Kd.R (Kd.int .i64) 3 w' w.heap.size (fun _ => True) v5 x5_1) ∧ Aside0 (w'.heap[gb223]? = some (.cells #[(.slice A0_0 l0_0.length c0_0), .int .i64 a0_1] 102 (0, 0))) ∧ Aside0 (Below w.heap.size w w'))
 case atStart => exact ⟨(a1), (([] : List Int)), es_, H', ⟨Nat.le_refl _⟩, ⟨by first | exact Kd.R_nil _ _ _ _ _ | exact Kd.N_nil _ _ _ _ _ | exact Kd.V_nil _ _ _ _ _ | exact Kd.Q_nil _ _ _ _ _ | exact Kd.S_nil _ _ _ _ _⟩, ⟨bw_ BK223.out⟩, ⟨hb_ HB⟩⟩
 case round =>
  clear H'
  obtain ⟨x1_1, x5_1, rfl, HA, HK1, HO_5, BK223, HB⟩ := hrel
  cases gk with
  | zero => exact absurd HA.out (by simp [tree_book_up.l0])
  | succ k1 =>
   have H := HA.out
   clear HA
   simp only [tree_book_up.l0] at H
   by_cases c4 : x1_1 ≥ 0
   ·rw [if_pos c4] at H
    have c4b0 : decide (0 ≤ x1_1) = true := decide_eq_true c4
    clear c4
    by_cases c5 : x5_1.length < 17592186044416
    ·rw [if_pos c5] at H
     have LMc5 := Aside0.mk c5
     clear c5
     obtain ⟨y224, hy224⟩ : ∃ y_ : List Int, y_ = (x5_1 ++ [x1_1]) := ⟨_, rfl⟩
     replace H : (if 0 ≤ x1_1 then (if x1_1 < (l0_0.length : Int) then (tree_book_up.l0 k1 ((rd_T69 l0_0 x1_1).f0) y224 l0_0 a0_1) else (none)) else (none)) = some r := th_ H hy224
     have Ny224 := Aside0.mk hy224
     clear hy224
     by_cases c6 : 0 ≤ x1_1
     ·rw [if_pos c6] at H
      have c6b0 : decide (0 ≤ x1_1) = true := decide_eq_true c6
      clear c6
      by_cases c7 : x1_1 < (l0_0.length : Int)
      ·rw [if_pos c7] at H
       have c7b0 : decide (x1_1 < (l0_0.length : Int)) = true := decide_eq_true c7
       clear c7
       have H' := Aside0.mk H
       clear H
       go_wp2_with (first | ((with_reducible refine gate_builtin (b := .append) (xs := #[.tmp 15, .tmp 17]) rfl ?_); at_builtin; refine Kd.R_append (Kd.int .i64) (w0 := w) w.heap.size rfl (.tmp 15) (.tmp 17) 59 3 (.int .i64 0) 8 rfl Try.underlying59 info3 rfl (by decide) (by omega) u5 x5_1 x1_1 [.int .i64 x1_1] (fun _ => True) (fun _ => False) rfl rfl ?aP (fun _ hk => hk.elim) ?aF ?aO ?aB ?aS ?aL ?_; (case aP => exact rfl); (case aB => exact (hb_ HB)); (case aF => exact (fun _ _ => trivial)); (case aO => exact (rw_ HO_5.out)); (case aS => exact (below_size (hb_ HB))); (case aL => have := LMc5.out; omega); intro v225 w8 ho hb hg hat; rw [← Ny224.out] at ho; have n0_ := Aside0.mk (blk_grown (g := gb223) (o := .cells #[.slice A0_0 l0_0.length c0_0, .int .i64 a0_1] 102 (0, 0)) (bw_ BK223.out) hg (Kd.R_ne HO_5.out BK223.out (by decide))); have n1_ := Aside0.mk (hb); have n2_ := Aside0.mk (ho); clear BK223; clear HB; clear HO_5; have BK223 := n0_; have HB := n1_; have HO226 := n2_; clear n0_ n1_ n2_; clear ho hb hg hat; obtain ⟨hcz9_0, hcz9_1, hfz9_0, hfz9_1⟩ := bc2_ BK223; have p227 : 0 ≤ (x1_1 : Int) := of_decide_eq_true as_; have q227 : x1_1 < (l0_0.length : Int) := of_decide_eq_true as_; obtain ⟨ad227, e227, hx227_0, hx227_1, hx227_2, hx227_3, hx227_4, hx227_5, hx227_6⟩ := at_T69 HR0_0.out x1_1 p227 q227; cases e227; replace hx227_0 := cb_ HB hx227_0; replace hx227_1 := cb_ HB hx227_1; replace hx227_2 := cb_ HB hx227_2; replace hx227_3 := cb_ HB hx227_3; replace hx227_4 := cb_ HB hx227_4; replace hx227_5 := cb_ HB hx227_5; replace hx227_6 := cb_ HB hx227_6; replace p227 := eq_true p227; replace q227 := eq_true q227))
       go_roundg k1
       case measure => have := HK1.out; omega
       case rel => exact ⟨((rd_T69 l0_0 x1_1).f0), (y224), es_, H', ⟨by have := HK1.out; omega⟩, ⟨rw_ HO226.out⟩, ⟨bw_ BK223.out⟩, ⟨hb_ HB⟩⟩
      ·rw [if_neg c7] at H
       exact absurd H (by simp)
     ·rw [if_neg c6] at H
      exact absurd H (by simp)
    ·rw [if_neg c5] at H
     exact absurd H (by simp)
   ·rw [if_neg c4] at H
    have c4b0 : decide (0 ≤ x1_1) = false := decide_eq_false c4
    clear c4
    obtain rfl := Option.some.inj H
    go_wp2
    go_ret
    exact ⟨_, er_, by (with_reducible repeat (first | apply Kd.R_alloc | apply Kd.R_drewN | apply Kd.R_drew)); exact HO_5.out, hb_ HB⟩

end Go.Proofs.Ytkiokimpblimcaa.PTreeGoes
