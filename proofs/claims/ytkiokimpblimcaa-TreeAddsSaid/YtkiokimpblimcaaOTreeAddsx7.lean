/- Of the law calamus/calamuslaw11.TreeAdds: each function as a plain Lean function, with a proof that the call comes to it; the row. By wip/tpl/own_print.py. Conditions: none but the row's own. -/
import Derived.Test.YtkiokimpblimcaaOTreeAddsx0
import Derived.Test.YtkiokimpblimcaaOTreeAddsx5
import Derived.Test.YtkiokimpblimcaaOTreeAddsx6
namespace Go.Proofs.Ytkiokimpblimcaa.PTreeAdds
open Go.RowKit Go.Proofs.YtkiokimpblimcaaW.PrintWords Go.Proofs.YtkiokimpblimcaaW.PrintLast Go.Proofs.YtkiokimpblimcaaW.PrintMore
attribute [local go_sem] max2_int min2_int max_two min_two max_three min_three max_four min_four   -- for this text's walks alone
set_option linter.unusedVariables false
set_option linter.unusedSimpArgs false

/-! ### calamuslaw11_lives: function 33 -/
def calamuslaw11_lives.f (k : Nat)  : Option (Bool) := (tree_New.f).bind fun bt188 => ((tree_Add.f k bt188.1 bt188.2 0 (⟨#[]⟩ : ByteArray) (⟨#[97]⟩ : ByteArray) 0 1).bind fun bt192 => ((tree_Undo.f k bt192.1 bt192.2.1).bind fun bt198 => ((tree_Add.f k bt198.1 bt198.2.1 0 (⟨#[]⟩ : ByteArray) (⟨#[98]⟩ : ByteArray) 0 1).bind fun bt205 => (if bt192.2.2 = 0 then (if bt198.2.2.1 = 1 then (if bt198.2.2.2 = true then (if bt205.2.2 = 0 then ((tree_Kids.f k bt205.1 bt205.2.1 0).bind fun t211 => ((calamusref01_Same.f k t211 (([1, 2] : List Int))).bind fun t217 => (if t217 = true then (if bt205.2.1 = 2 then (if (bt205.1.length : Int) = 3 then (if 0 < (bt205.1.length : Int) then (some (((rd_T69 bt205.1 0).f1) == 2)) else (none)) else (some false)) else (some false)) else (some false)))) else (some false)) else (some false)) else (some false)) else (some false)))))
theorem calamuslaw11_lives.mono : ∀ k, LeO (calamuslaw11_lives.f k ) (calamuslaw11_lives.f (k + 1) ) := by
 intro  k
 unfold calamuslaw11_lives.f
 repeat' first
   | (with_reducible exact calamusref01_Same.mono _ _ _)
   | (with_reducible exact tree_Add.mono _ _ _ _ _ _ _ _)
   | (with_reducible exact tree_Kids.mono _ _ _ _)
   | (with_reducible exact tree_Undo.mono _ _ _)
   | (with_reducible exact LeO.refl _)
   | (with_reducible exact LeO.none _)
   | (with_reducible refine LeO.ite ?_ ?_)
   | (with_reducible refine LeO.bind ?_ (fun _ => ?_))
   | exact calamusref01_Same.mono _ _ _
   | exact tree_Add.mono _ _ _ _ _ _ _ _
   | exact tree_Kids.mono _ _ _ _
   | exact tree_Undo.mono _ _ _
   | exact LeO.none _
   | refine LeO.ite ?_ ?_
   | refine LeO.bind ?_ (fun _ => ?_)
theorem calamuslaw11_lives.true_ {k : Nat} {r : Bool} (h : calamuslaw11_lives.f k = some r) : r = true := by
 have h1 := at_rounds (g := fun k => calamuslaw11_lives.f k) calamuslaw11_lives.mono (Nat.le_max_left k 60) h
 have h2 := at_rounds (g := fun k => calamuslaw11_lives.f k) calamuslaw11_lives.mono (Nat.le_max_right k 60) (show calamuslaw11_lives.f 60 = some true by decide +kernel)
 rw [h1] at h2
 exact Option.some.inj h2
set_option maxHeartbeats 8000000 in
set_option maxRecDepth 100000 in
theorem calamuslaw11_lives.calls (k : Nat)  (r : Bool) (w : World) (h : calamuslaw11_lives.f k  = some r) :
  Calls Try.prog 33 #[] w fun e w' => e = .returned (.bool r) ∧ Below w.heap.size w w' := by
 have hr_ := calamuslaw11_lives.true_ h
 have hu24 := Try.underlying24
 have hu46 := Try.underlying46
 have HB := Aside0.mk (Below.refl w.heap.size w)
 have H : ((tree_New.f).bind fun bt188 => ((tree_Add.f k bt188.1 bt188.2 0 (⟨#[]⟩ : ByteArray) (⟨#[97]⟩ : ByteArray) 0 1).bind fun bt192 => ((tree_Undo.f k bt192.1 bt192.2.1).bind fun bt198 => ((tree_Add.f k bt198.1 bt198.2.1 0 (⟨#[]⟩ : ByteArray) (⟨#[98]⟩ : ByteArray) 0 1).bind fun bt205 => (if bt192.2.2 = 0 then (if bt198.2.2.1 = 1 then (if bt198.2.2.2 = true then (if bt205.2.2 = 0 then ((tree_Kids.f k bt205.1 bt205.2.1 0).bind fun t211 => ((calamusref01_Same.f k t211 (([1, 2] : List Int))).bind fun t217 => (if t217 = true then (if bt205.2.1 = 2 then (if (bt205.1.length : Int) = 3 then (if 0 < (bt205.1.length : Int) then (some (((rd_T69 bt205.1 0).f1) == 2)) else (none)) else (some false)) else (some false)) else (some false)))) else (some false)) else (some false)) else (some false)) else (some false)))))) = some r := h
 clear h
 replace H := Option.bind_eq_some_iff.mp H
 obtain ⟨⟨t188, t191⟩, A10, H⟩ := H
 replace H : ((tree_Add.f k t188 t191 0 (⟨#[]⟩ : ByteArray) (⟨#[97]⟩ : ByteArray) 0 1).bind fun bt192 => ((tree_Undo.f k bt192.1 bt192.2.1).bind fun bt198 => ((tree_Add.f k bt198.1 bt198.2.1 0 (⟨#[]⟩ : ByteArray) (⟨#[98]⟩ : ByteArray) 0 1).bind fun bt205 => (if bt192.2.2 = 0 then (if bt198.2.2.1 = 1 then (if bt198.2.2.2 = true then (if bt205.2.2 = 0 then ((tree_Kids.f k bt205.1 bt205.2.1 0).bind fun t211 => ((calamusref01_Same.f k t211 (([1, 2] : List Int))).bind fun t217 => (if t217 = true then (if bt205.2.1 = 2 then (if (bt205.1.length : Int) = 3 then (if 0 < (bt205.1.length : Int) then (some (((rd_T69 bt205.1 0).f1) == 2)) else (none)) else (some false)) else (some false)) else (some false)))) else (some false)) else (some false)) else (some false)) else (some false))))) = some r := H
 have A1 := Aside0.mk A10
 clear A10
 replace H := Option.bind_eq_some_iff.mp H
 obtain ⟨⟨t192, t195, t196⟩, A20, H⟩ := H
 replace H : ((tree_Undo.f k t192 t195).bind fun bt198 => ((tree_Add.f k bt198.1 bt198.2.1 0 (⟨#[]⟩ : ByteArray) (⟨#[98]⟩ : ByteArray) 0 1).bind fun bt205 => (if t196 = 0 then (if bt198.2.2.1 = 1 then (if bt198.2.2.2 = true then (if bt205.2.2 = 0 then ((tree_Kids.f k bt205.1 bt205.2.1 0).bind fun t211 => ((calamusref01_Same.f k t211 (([1, 2] : List Int))).bind fun t217 => (if t217 = true then (if bt205.2.1 = 2 then (if (bt205.1.length : Int) = 3 then (if 0 < (bt205.1.length : Int) then (some (((rd_T69 bt205.1 0).f1) == 2)) else (none)) else (some false)) else (some false)) else (some false)))) else (some false)) else (some false)) else (some false)) else (some false)))) = some r := H
 have A2 := Aside0.mk A20
 clear A20
 replace H := Option.bind_eq_some_iff.mp H
 obtain ⟨⟨t198, t201, t202, t203⟩, A30, H⟩ := H
 replace H : ((tree_Add.f k t198 t201 0 (⟨#[]⟩ : ByteArray) (⟨#[98]⟩ : ByteArray) 0 1).bind fun bt205 => (if t196 = 0 then (if t202 = 1 then (if t203 = true then (if bt205.2.2 = 0 then ((tree_Kids.f k bt205.1 bt205.2.1 0).bind fun t211 => ((calamusref01_Same.f k t211 (([1, 2] : List Int))).bind fun t217 => (if t217 = true then (if bt205.2.1 = 2 then (if (bt205.1.length : Int) = 3 then (if 0 < (bt205.1.length : Int) then (some (((rd_T69 bt205.1 0).f1) == 2)) else (none)) else (some false)) else (some false)) else (some false)))) else (some false)) else (some false)) else (some false)) else (some false))) = some r := H
 have A3 := Aside0.mk A30
 clear A30
 replace H := Option.bind_eq_some_iff.mp H
 obtain ⟨⟨t205, t208, t209⟩, A40, H⟩ := H
 replace H : (if t196 = 0 then (if t202 = 1 then (if t203 = true then (if t209 = 0 then ((tree_Kids.f k t205 t208 0).bind fun t211 => ((calamusref01_Same.f k t211 (([1, 2] : List Int))).bind fun t217 => (if t217 = true then (if t208 = 2 then (if (t205.length : Int) = 3 then (if 0 < (t205.length : Int) then (some (((rd_T69 t205 0).f1) == 2)) else (none)) else (some false)) else (some false)) else (some false)))) else (some false)) else (some false)) else (some false)) else (some false)) = some r := H
 have A4 := Aside0.mk A40
 clear A40
 by_cases c5 : t196 = 0
 ·rw [if_pos c5] at H
  have c5b0 : (t196 == 0) = true := beq_iff_eq.mpr c5
  have c5b1 : (t196 != 0) = false := bne_eq_false_iff_eq.mpr c5
  clear c5
  by_cases c6 : t202 = 1
  ·rw [if_pos c6] at H
   have c6b0 : (t202 == 1) = true := beq_iff_eq.mpr c6
   have c6b1 : (t202 != 1) = false := bne_eq_false_iff_eq.mpr c6
   clear c6
   by_cases c7 : t203 = true
   ·subst c7
    have H1 : (if t209 = 0 then ((tree_Kids.f k t205 t208 0).bind fun t211 => ((calamusref01_Same.f k t211 (([1, 2] : List Int))).bind fun t217 => (if t217 = true then (if t208 = 2 then (if (t205.length : Int) = 3 then (if 0 < (t205.length : Int) then (some (((rd_T69 t205 0).f1) == 2)) else (none)) else (some false)) else (some false)) else (some false)))) else (some false)) = some r := by rw [if_pos rfl] at H; exact H
    clear H
    have H := H1
    clear H1
    by_cases c8 : t209 = 0
    ·rw [if_pos c8] at H
     have c8b0 : (t209 == 0) = true := beq_iff_eq.mpr c8
     have c8b1 : (t209 != 0) = false := bne_eq_false_iff_eq.mpr c8
     clear c8
     replace H := Option.bind_eq_some_iff.mp H
     obtain ⟨t211, A90, H⟩ := H
     replace H : ((calamusref01_Same.f k t211 (([1, 2] : List Int))).bind fun t217 => (if t217 = true then (if t208 = 2 then (if (t205.length : Int) = 3 then (if 0 < (t205.length : Int) then (some (((rd_T69 t205 0).f1) == 2)) else (none)) else (some false)) else (some false)) else (some false))) = some r := H
     have A9 := Aside0.mk A90
     clear A90
     obtain ⟨y214, hy214⟩ : ∃ y_ : List Int, y_ = (([1, 2] : List Int)) := ⟨_, rfl⟩
     replace H : ((calamusref01_Same.f k t211 y214).bind fun t217 => (if t217 = true then (if t208 = 2 then (if (t205.length : Int) = 3 then (if 0 < (t205.length : Int) then (some (((rd_T69 t205 0).f1) == 2)) else (none)) else (some false)) else (some false)) else (some false))) = some r := th_ H hy214
     have Ny214 := Aside0.mk hy214
     clear hy214
     replace H := Option.bind_eq_some_iff.mp H
     obtain ⟨t217, A100, H⟩ := H
     replace H : (if t217 = true then (if t208 = 2 then (if (t205.length : Int) = 3 then (if 0 < (t205.length : Int) then (some (((rd_T69 t205 0).f1) == 2)) else (none)) else (some false)) else (some false)) else (some false)) = some r := H
     have A10 := Aside0.mk A100
     clear A100
     by_cases c11 : t217 = true
     ·subst c11
      have H1 : (if t208 = 2 then (if (t205.length : Int) = 3 then (if 0 < (t205.length : Int) then (some (((rd_T69 t205 0).f1) == 2)) else (none)) else (some false)) else (some false)) = some r := by rw [if_pos rfl] at H; exact H
      clear H
      have H := H1
      clear H1
      by_cases c12 : t208 = 2
      ·rw [if_pos c12] at H
       have c12b0 : (t208 == 2) = true := beq_iff_eq.mpr c12
       have c12b1 : (t208 != 2) = false := bne_eq_false_iff_eq.mpr c12
       clear c12
       by_cases c13 : (t205.length : Int) = 3
       ·rw [if_pos c13] at H
        have c13b0 : ((t205.length : Int) == 3) = true := beq_iff_eq.mpr c13
        have c13b1 : ((t205.length : Int) != 3) = false := bne_eq_false_iff_eq.mpr c13
        clear c13
        by_cases c14 : 0 < (t205.length : Int)
        ·rw [if_pos c14] at H
         have c14b0 : decide (0 < (t205.length : Int)) = true := decide_eq_true c14
         have c14b1 : decide (0 < t205.length) = true := decide_eq_true (by omega)
         clear c14
         obtain rfl := Option.some.inj H
         go_enter Try.func33, Try.ntmps33
         go_wp2_with (first | ((with_reducible refine gate_callee (f := 40) rfl ?_); refine ge_ (some 9) rfl rfl Try.func40 (by kernel_rfl) rfl #[] rfl (h := ?_); (with_reducible refine (tree_New.calls  t188 t191 _ A1.out).mono ?_); rintro e w15 ⟨v189, rfl, ho0, hb⟩; refine ⟨_, rfl, ?_⟩; have HO190 := Aside0.mk (Kd.R_lower ho0 (below_size (hb_ HB))); replace HB := bs_ HB hb; (try clear hb); (try clear hb2); (try clear hk); (try clear hi); (try clear ho0); obtain ⟨Ao16, co16, eo16⟩ := Kd.R_slice HO190.out; subst eo16) | ((with_reducible refine gate_callee (f := 34) rfl ?_); refine ge_ (some 11) rfl rfl Try.func34 (by kernel_rfl) rfl #[.agg #[.slice Ao16 t188.length co16, .int .i64 t191], .agg #[.int .i64 0, .string (⟨#[]⟩ : ByteArray), .string (⟨#[97]⟩ : ByteArray)], .int .i64 0, .int .i64 1] rfl (h := ?_); (with_reducible refine (tree_Add.calls k _ _ t188 t191 0 (⟨#[]⟩ : ByteArray) (⟨#[97]⟩ : ByteArray) 0 1 t192 t195 t196 _ ?side1 ?side2 A2.out).mono ?_); (case side1 => repeat (first | exact (Kd.R_reads' HO190.out).2.2 | (with_reducible refine Kd.C_alloc ?_ _) | (with_reducible refine Kd.C_drewN ?_ _) | (with_reducible refine Kd.C_drew ?_))); (case side2 => exact (Kd.R_reads' HO190.out).2.1); rintro e w17 ⟨v193, rfl, ho0, hb⟩; refine ⟨_, rfl, ?_⟩; have HO194 := Aside0.mk (Kd.R_lower (Kd.R_new' ho0 (Kd.R_lt (rw_ HO190.out))) (below_size (hb_ HB))); replace HO190 := Aside0.mk (Kd.R_elder' (rw_ HO190.out) (Kd.R_base ho0) hb); replace HB := bs_ HB hb; (try clear hb); (try clear hb2); (try clear hk); (try clear hi); (try clear ho0)) | ((with_reducible refine gate_dst (N := 1) rfl ?_); (try (refine gate_guard (by rfl) ?_; dsimp only)); refine be_ (N := 1) (cs := #[.slice none 0 0, .int .i64 0]) (t := 46) (h := ?_); intro gb197 hg w18 hbox hb; have BK197 := Aside0.mk (hbox); have GW197 := gw_ HB hg; have GE197 := gw_ HB hg; replace HO190 := Aside0.mk (Kd.R_below (rw_ HO190.out) hb); replace HO194 := Aside0.mk (Kd.R_below (rw_ HO194.out) hb); replace HB := bs_ HB hb; clear hb hbox hg; obtain ⟨Ao19, co19, eo19⟩ := Kd.R_slice HO194.out; subst eo19; obtain ⟨hcz20_0, hcz20_1, hfz20_0, hfz20_1⟩ := bc2_ BK197) | ((with_reducible refine gate_callee (f := 42) rfl ?_); refine ge_ (some 16) rfl rfl Try.func42 (by kernel_rfl) rfl #[.agg #[.slice Ao19 t192.length co19, .int .i64 t195]] rfl (h := ?_); (with_reducible refine (tree_Undo.calls k _ _ t192 t195 t198 t201 t202 true _ ?side1 ?side2 A3.out).mono ?_); (case side1 => refine (Kd.R_reads' (e := 69) (base := w.heap.size) (ok := fun k_ => (True ∧ some k_ ≠ (.slice Ao16 t188.length co16 : Value).ownBlock)) (n := t192.length) (c := co19) ?_).2.2; exact (by (with_reducible repeat (first | apply Kd.R_alloc | apply Kd.R_drewN | apply Kd.R_drew)); exact (Kd.R_mono (rf_ (Kd.R_types HO194.out BK197.out (by decide)) (fun _ hk => hk.2)) (fun _ h_ => h_.1)))); (case side2 => exact (Kd.R_reads' HO194.out).2.1); rintro e w21 ⟨v199, rfl, ho0, hb⟩; refine ⟨_, rfl, ?_⟩; have HO200 := Aside0.mk (Kd.R_lower (Kd.R_new' (Kd.R_new' ho0 (Kd.R_lt (by (with_reducible repeat (first | apply Kd.R_alloc | apply Kd.R_drewN | apply Kd.R_drew)); exact (Kd.R_mono (rf_ (Kd.R_types HO190.out BK197.out (by decide)) (fun _ hk => hk.2)) (fun _ h_ => h_.1))))) (Kd.R_lt (by (with_reducible repeat (first | apply Kd.R_alloc | apply Kd.R_drewN | apply Kd.R_drew)); exact (Kd.R_mono (rf_ (Kd.R_types HO194.out BK197.out (by decide)) (fun _ hk => hk.2)) (fun _ h_ => h_.1))))) (below_size (hb_ HB))); replace HO190 := Aside0.mk (Kd.R_elder' (by (with_reducible repeat (first | apply Kd.R_alloc | apply Kd.R_drewN | apply Kd.R_drew)); exact (Kd.R_mono (rf_ (Kd.R_types HO190.out BK197.out (by decide)) (fun _ hk => hk.2)) (fun _ h_ => h_.1))) (Kd.R_base ho0) hb); replace HO194 := Aside0.mk (Kd.R_elder' (by (with_reducible repeat (first | apply Kd.R_alloc | apply Kd.R_drewN | apply Kd.R_drew)); exact (Kd.R_mono (rf_ (Kd.R_types HO194.out BK197.out (by decide)) (fun _ hk => hk.2)) (fun _ h_ => h_.1))) (Kd.R_base ho0) hb); replace HB := bs_ HB hb; replace BK197 := Aside0.mk (blk_below (g := gb197) (o := .cells #[.slice Ao19 t192.length co19, .int .i64 t195] 46 (0, 0)) (bp_ BK197.out) hb); (try clear hb); (try clear hb2); (try clear hk); (try clear hi); (try clear ho0)) | ((with_reducible refine gate_dst (N := 3) rfl ?_); (try (refine gate_guard (by rfl) ?_; dsimp only)); refine be_ (N := 3) (cs := #[.slice none 0 0, .int .i64 0]) (t := 46) (h := ?_); intro gb204 hg w22 hbox hb; have BK204 := Aside0.mk (hbox); have GW204 := gw_ HB hg; have GE204 := gw_ HB hg; have NB197_204 := ne_ BK197 hg; have NB204_197 := en_ BK197 hg; replace HO190 := Aside0.mk (Kd.R_below (rw_ HO190.out) hb); replace HO194 := Aside0.mk (Kd.R_below (rw_ HO194.out) hb); replace HO200 := Aside0.mk (Kd.R_below (rw_ HO200.out) hb); replace BK197 := bb_ BK197 hb; replace HB := bs_ HB hb; clear hb hbox hg; obtain ⟨Ao23, co23, eo23⟩ := Kd.R_slice HO200.out; subst eo23; have hnb24 := NB204_197.out; have hnc24 := NB197_204.out; obtain ⟨hcz25_0, hcz25_1, hfz25_0, hfz25_1⟩ := bc2_ BK204) | ((with_reducible refine gate_callee (f := 34) rfl ?_); refine ge_ (some 23) rfl rfl Try.func34 (by kernel_rfl) rfl #[.agg #[.slice Ao23 t198.length co23, .int .i64 t201], .agg #[.int .i64 0, .string (⟨#[]⟩ : ByteArray), .string (⟨#[98]⟩ : ByteArray)], .int .i64 0, .int .i64 1] rfl (h := ?_); (with_reducible refine (tree_Add.calls k _ _ t198 t201 0 (⟨#[]⟩ : ByteArray) (⟨#[98]⟩ : ByteArray) 0 1 t205 t208 t209 _ ?side1 ?side2 A4.out).mono ?_); (case side1 => refine (Kd.R_reads' (e := 69) (base := w.heap.size) (ok := fun k_ => ((True ∧ some k_ ≠ (.slice Ao16 t188.length co16 : Value).ownBlock) ∧ some k_ ≠ (.slice Ao19 t192.length co19 : Value).ownBlock)) (n := t198.length) (c := co23) ?_).2.2; exact (by (with_reducible repeat (first | apply Kd.R_alloc | apply Kd.R_drewN | apply Kd.R_drew)); exact (Kd.R_mono (rf_ (Kd.R_types HO200.out BK204.out (by decide)) (fun _ hk => hk.2)) (fun _ h_ => h_.1)))); (case side2 => exact (Kd.R_reads' HO200.out).2.1); rintro e w26 ⟨v206, rfl, ho0, hb⟩; refine ⟨_, rfl, ?_⟩; have HO207 := Aside0.mk (Kd.R_lower (Kd.R_new' (Kd.R_new' (Kd.R_new' ho0 (Kd.R_lt (by (with_reducible repeat (first | apply Kd.R_alloc | apply Kd.R_drewN | apply Kd.R_drew)); exact (Kd.R_mono (rf_ (Kd.R_types HO190.out BK204.out (by decide)) (fun _ hk => hk.2)) (fun _ h_ => h_.1))))) (Kd.R_lt (by (with_reducible repeat (first | apply Kd.R_alloc | apply Kd.R_drewN | apply Kd.R_drew)); exact (Kd.R_mono (rf_ (Kd.R_types HO194.out BK204.out (by decide)) (fun _ hk => hk.2)) (fun _ h_ => h_.1))))) (Kd.R_lt (by (with_reducible repeat (first | apply Kd.R_alloc | apply Kd.R_drewN | apply Kd.R_drew)); exact (Kd.R_mono (rf_ (Kd.R_types HO200.out BK204.out (by decide)) (fun _ hk => hk.2)) (fun _ h_ => h_.1))))) (below_size (hb_ HB))); replace HO190 := Aside0.mk (Kd.R_elder' (by (with_reducible repeat (first | apply Kd.R_alloc | apply Kd.R_drewN | apply Kd.R_drew)); exact (Kd.R_mono (rf_ (Kd.R_types HO190.out BK204.out (by decide)) (fun _ hk => hk.2)) (fun _ h_ => h_.1))) (Kd.R_base ho0) hb); replace HO194 := Aside0.mk (Kd.R_elder' (by (with_reducible repeat (first | apply Kd.R_alloc | apply Kd.R_drewN | apply Kd.R_drew)); exact (Kd.R_mono (rf_ (Kd.R_types HO194.out BK204.out (by decide)) (fun _ hk => hk.2)) (fun _ h_ => h_.1))) (Kd.R_base ho0) hb); replace HO200 := Aside0.mk (Kd.R_elder' (by (with_reducible repeat (first | apply Kd.R_alloc | apply Kd.R_drewN | apply Kd.R_drew)); exact (Kd.R_mono (rf_ (Kd.R_types HO200.out BK204.out (by decide)) (fun _ hk => hk.2)) (fun _ h_ => h_.1))) (Kd.R_base ho0) hb); replace BK197 := Aside0.mk (blk_below (g := gb197) (o := .cells #[.slice Ao19 t192.length co19, .int .i64 t195] 46 (0, 0)) (bp_ BK197.out) hb); replace HB := bs_ HB hb; replace BK204 := Aside0.mk (blk_below (g := gb204) (o := .cells #[.slice Ao23 t198.length co23, .int .i64 t201] 46 (0, 0)) (bp_ BK204.out) hb); (try clear hb); (try clear hb2); (try clear hk); (try clear hi); (try clear ho0)) | ((with_reducible refine gate_dst (N := 6) rfl ?_); (try (refine gate_guard (by rfl) ?_; dsimp only)); refine be_ (N := 6) (cs := #[.slice none 0 0, .int .i64 0]) (t := 46) (h := ?_); intro gb210 hg w27 hbox hb; have BK210 := Aside0.mk (hbox); have GW210 := gw_ HB hg; have GE210 := gw_ HB hg; have NB197_210 := ne_ BK197 hg; have NB210_197 := en_ BK197 hg; have NB204_210 := ne_ BK204 hg; have NB210_204 := en_ BK204 hg; replace HO190 := Aside0.mk (Kd.R_below (rw_ HO190.out) hb); replace HO194 := Aside0.mk (Kd.R_below (rw_ HO194.out) hb); replace HO200 := Aside0.mk (Kd.R_below (rw_ HO200.out) hb); replace HO207 := Aside0.mk (Kd.R_below (rw_ HO207.out) hb); replace BK197 := bb_ BK197 hb; replace BK204 := bb_ BK204 hb; replace HB := bs_ HB hb; clear hb hbox hg; obtain ⟨Ao28, co28, eo28⟩ := Kd.R_slice HO207.out; subst eo28; have hnb29 := NB210_197.out; have hnc29 := NB197_210.out; have hnb30 := NB210_204.out; have hnc30 := NB204_210.out; obtain ⟨hcz31_0, hcz31_1, hfz31_0, hfz31_1⟩ := bc2_ BK210) | (go_at_call 47; (with_reducible refine (tree_Kids.calls k _ _ t205 t208 0 t211 _ ?side1 ?side2 A9.out).mono ?_); (case side1 => refine (Kd.R_reads' (e := 69) (base := w.heap.size) (ok := fun k_ => (((True ∧ some k_ ≠ (.slice Ao16 t188.length co16 : Value).ownBlock) ∧ some k_ ≠ (.slice Ao19 t192.length co19 : Value).ownBlock) ∧ some k_ ≠ (.slice Ao23 t198.length co23 : Value).ownBlock)) (n := t205.length) (c := co28) ?_).2.2; exact (by (with_reducible repeat (first | apply Kd.R_alloc | apply Kd.R_drewN | apply Kd.R_drew)); exact (Kd.R_mono (rf_ (Kd.R_types HO207.out BK210.out (by decide)) (fun _ hk => hk.2)) (fun _ h_ => h_.1)))); (case side2 => exact (Kd.R_reads' HO207.out).2.1); rintro e w32 ⟨v212, rfl, ho0, hb⟩; have HO213 := Aside0.mk (Kd.R_lower ho0 (below_size (hb_ HB))); replace HO190 := Aside0.mk (Kd.R_below (by (with_reducible repeat (first | apply Kd.R_alloc | apply Kd.R_drewN | apply Kd.R_drew)); exact (Kd.R_mono (rf_ (Kd.R_types HO190.out BK210.out (by decide)) (fun _ hk => hk.2)) (fun _ h_ => h_.1))) hb); replace HO194 := Aside0.mk (Kd.R_below (by (with_reducible repeat (first | apply Kd.R_alloc | apply Kd.R_drewN | apply Kd.R_drew)); exact (Kd.R_mono (rf_ (Kd.R_types HO194.out BK210.out (by decide)) (fun _ hk => hk.2)) (fun _ h_ => h_.1))) hb); replace HO200 := Aside0.mk (Kd.R_below (by (with_reducible repeat (first | apply Kd.R_alloc | apply Kd.R_drewN | apply Kd.R_drew)); exact (Kd.R_mono (rf_ (Kd.R_types HO200.out BK210.out (by decide)) (fun _ hk => hk.2)) (fun _ h_ => h_.1))) hb); replace HO207 := Aside0.mk (Kd.R_below (by (with_reducible repeat (first | apply Kd.R_alloc | apply Kd.R_drewN | apply Kd.R_drew)); exact (Kd.R_mono (rf_ (Kd.R_types HO207.out BK210.out (by decide)) (fun _ hk => hk.2)) (fun _ h_ => h_.1))) hb); replace BK197 := Aside0.mk (blk_below (g := gb197) (o := .cells #[.slice Ao19 t192.length co19, .int .i64 t195] 46 (0, 0)) (bp_ BK197.out) hb); replace BK204 := Aside0.mk (blk_below (g := gb204) (o := .cells #[.slice Ao23 t198.length co23, .int .i64 t201] 46 (0, 0)) (bp_ BK204.out) hb); replace HB := bs_ HB hb; replace BK210 := Aside0.mk (blk_below (g := gb210) (o := .cells #[.slice Ao28 t205.length co28, .int .i64 t208] 46 (0, 0)) (bp_ BK210.out) hb); (try clear hb); (try clear hb2); (try clear hk); (try clear hi); (try clear ho0)) | ((with_reducible refine gate_dst (N := 42) rfl ?_); (try (refine gate_guard (by rfl) ?_; dsimp only)); refine Kd.R_lit (Kd.int .i64) _ 3 ?hg (N := 42) ?hd (xs := ([1, 2] : List Int)) (inner := [.int .i64 1, .int .i64 2]) (ok := fun _ => True) (okp := fun _ => True) ?hr ?hp (fun _ hk => hk) trivial (Below.refl _ _) (Nat.le_refl _) (by simp) ?_; (case hd => rfl); (case hg => rfl); (case hr => first | (go_simp; done) | (go_simp; rfl)); (case hp => exact (Reps.one (show Kd.M (Kd.int .i64) _ _ _ 1 [.int .i64 1] from rfl) (Reps.one (show Kd.M (Kd.int .i64) _ _ _ 2 [.int .i64 2] from rfl) (Reps.none _ _)))); intro v215 w33 ho34 hb hg_ hnew_; clear hg_ hnew_; (first | rw [← Ny214.out] at ho34 | (simp only [Int.reduceToNat] at ho34; rw [← Ny214.out] at ho34)); have HO216 := Aside0.mk (Kd.R_lower (Kd.R_new' ho34 (Kd.R_lt (rw_ HO213.out))) (below_size (hb_ HB))); replace HO190 := Aside0.mk (Kd.R_below (rw_ HO190.out) hb); replace HO194 := Aside0.mk (Kd.R_below (rw_ HO194.out) hb); replace HO200 := Aside0.mk (Kd.R_below (rw_ HO200.out) hb); replace HO207 := Aside0.mk (Kd.R_below (rw_ HO207.out) hb); replace HO213 := Aside0.mk (Kd.R_elder' (rw_ HO213.out) (Kd.R_base ho34) hb); replace BK197 := bb_ BK197 hb; replace BK204 := bb_ BK204 hb; replace BK210 := bb_ BK210 hb; replace HB := bs_ HB hb; clear hb ho34; obtain ⟨Ao35, co35, eo35⟩ := Kd.R_slice HO213.out; subst eo35; obtain ⟨Ao36, co36, eo36⟩ := Kd.R_slice HO216.out; subst eo36) | (go_at_call 46; (with_reducible refine (calamusref01_Same.calls k _ _ t211 _ _ y214 true _ ?side1 ?side2 ?side3 ?side4 A10.out).mono ?_); (case side1 => repeat (first | exact (Kd.R_reads' HO213.out).2.2 | (with_reducible refine Kd.C_alloc ?_ _) | (with_reducible refine Kd.C_drewN ?_ _) | (with_reducible refine Kd.C_drew ?_))); (case side2 => exact (Kd.R_reads' HO213.out).2.1); (case side3 => repeat (first | exact (Kd.R_reads' HO216.out).2.2 | (with_reducible refine Kd.C_alloc ?_ _) | (with_reducible refine Kd.C_drewN ?_ _) | (with_reducible refine Kd.C_drew ?_))); (case side4 => exact (Kd.R_reads' HO216.out).2.1); rintro e w' ⟨rfl, ⟨nd, rfl⟩⟩; obtain ⟨hcz37_0, hcz37_1, hfz37_0, hfz37_1⟩ := bc2_ BK210; have p218 : 0 ≤ (0 : Int) := (by omega); have q218 : 0 < (t205.length : Int) := of_decide_eq_true as_; obtain ⟨ad218, e218, hx218_0, hx218_1, hx218_2, hx218_3, hx218_4, hx218_5, hx218_6⟩ := at_T69 (Kd.R_reads' HO207.out).2.2 0 p218 q218; cases e218; have qi218 : (0 < t205.length) = True := eq_true (by omega); (try rw [show ((0 : Int)).toNat = 0 from rfl] at hx218_0); (try rw [show 0 * 7 = 0 from rfl] at hx218_0); (try rw [Addr.add_zero'] at hx218_0); (try rw [show ((0 : Int)).toNat = 0 from rfl] at hx218_1); (try rw [show 0 * 7 = 0 from rfl] at hx218_1); (try rw [Addr.add_zero'] at hx218_1); (try rw [show ((0 : Int)).toNat = 0 from rfl] at hx218_2); (try rw [show 0 * 7 = 0 from rfl] at hx218_2); (try rw [Addr.add_zero'] at hx218_2); (try rw [show ((0 : Int)).toNat = 0 from rfl] at hx218_3); (try rw [show 0 * 7 = 0 from rfl] at hx218_3); (try rw [Addr.add_zero'] at hx218_3); (try rw [show ((0 : Int)).toNat = 0 from rfl] at hx218_4); (try rw [show 0 * 7 = 0 from rfl] at hx218_4); (try rw [Addr.add_zero'] at hx218_4); (try rw [show ((0 : Int)).toNat = 0 from rfl] at hx218_5); (try rw [show 0 * 7 = 0 from rfl] at hx218_5); (try rw [Addr.add_zero'] at hx218_5); (try rw [show ((0 : Int)).toNat = 0 from rfl] at hx218_6); (try rw [show 0 * 7 = 0 from rfl] at hx218_6); (try rw [Addr.add_zero'] at hx218_6); replace p218 := eq_true p218; replace q218 := eq_true q218))
         go_ret
         exact ⟨er_, hb_ HB⟩
        ·rw [if_neg c14] at H
         exact absurd H (by simp)
       ·rw [if_neg c13] at H
        have c13b0 : ((t205.length : Int) == 3) = false := beq_eq_false_iff_ne.mpr c13
        have c13b1 : ((t205.length : Int) != 3) = true := bne_iff_ne.mpr c13
        exact nf_ H hr_
      ·rw [if_neg c12] at H
       have c12b0 : (t208 == 2) = false := beq_eq_false_iff_ne.mpr c12
       have c12b1 : (t208 != 2) = true := bne_iff_ne.mpr c12
       exact nf_ H hr_
     ·replace c11 := Bool.eq_false_iff.mpr c11
      subst c11
      have H1 : (some false) = some r := by rw [if_neg (show ¬ (false = true) by decide)] at H; exact H
      clear H
      have H := H1
      clear H1
      exact nf_ H hr_
    ·rw [if_neg c8] at H
     have c8b0 : (t209 == 0) = false := beq_eq_false_iff_ne.mpr c8
     have c8b1 : (t209 != 0) = true := bne_iff_ne.mpr c8
     exact nf_ H hr_
   ·replace c7 := Bool.eq_false_iff.mpr c7
    subst c7
    have H1 : (some false) = some r := by rw [if_neg (show ¬ (false = true) by decide)] at H; exact H
    clear H
    have H := H1
    clear H1
    exact nf_ H hr_
  ·rw [if_neg c6] at H
   have c6b0 : (t202 == 1) = false := beq_eq_false_iff_ne.mpr c6
   have c6b1 : (t202 != 1) = true := bne_iff_ne.mpr c6
   exact nf_ H hr_
 ·rw [if_neg c5] at H
  have c5b0 : (t196 == 0) = false := beq_eq_false_iff_ne.mpr c5
  have c5b1 : (t196 != 0) = true := bne_iff_ne.mpr c5
  exact nf_ H hr_
/-! ### calamusref11_has: function 82 -/
def calamusref11_has.f (l0_0 : List (S69)) (a0_1 : Int) (a1 : Int) : Option (Bool) := if a1 ≥ 0 then (some (decide (a1 < (l0_0.length : Int)))) else (some false)
set_option maxHeartbeats 8000000 in
set_option maxRecDepth 100000 in
theorem calamusref11_has.calls (A0_0 : Option Addr) (c0_0 : Nat) (l0_0 : List (S69)) (a0_1 : Int) (a1 : Int) (r : Bool) (w : World) (hr0_0 : Kd.C k69 w A0_0 l0_0.length l0_0) (hc0_0 : l0_0.length ≤ c0_0) (h : calamusref11_has.f l0_0 a0_1 a1 = some r) :
  Calls Try.prog 82 #[.agg #[.slice A0_0 l0_0.length c0_0, .int .i64 a0_1], .int .i64 a1] w fun e w' => e = .returned (.bool r) ∧ Below w.heap.size w w' := by
 have hu46 := Try.underlying46
 have HR0_0 := Aside0.mk hr0_0
 have HC0_0 := Aside0.mk hc0_0
 clear hr0_0 hc0_0
 have HB := Aside0.mk (Below.refl w.heap.size w)
 have H : (if a1 ≥ 0 then (some (decide (a1 < (l0_0.length : Int)))) else (some false)) = some r := h
 clear h
 by_cases c3 : a1 ≥ 0
 ·rw [if_pos c3] at H
  have c3b0 : decide (0 ≤ a1) = true := decide_eq_true c3
  clear c3
  obtain rfl := Option.some.inj H
  go_enter Try.func82, Try.ntmps82
  go_wp2_with (first | ((with_reducible refine gate_dst (N := 2) rfl ?_); (try (refine gate_guard (by rfl) ?_; dsimp only)); refine be_ (N := 2) (cs := #[.slice A0_0 l0_0.length c0_0, .int .i64 a0_1]) (t := 46) (h := ?_); intro gb219 hg w4 hbox hb; have BK219 := Aside0.mk (hbox); have GW219 := gw_ HB hg; have GE219 := gw_ HB hg; replace HB := bs_ HB hb; clear hb hbox hg; obtain ⟨hcz5_0, hcz5_1, hfz5_0, hfz5_1⟩ := bc2_ BK219))
  go_ret
  exact ⟨er_, hb_ HB⟩
 ·rw [if_neg c3] at H
  have c3b0 : decide (0 ≤ a1) = false := decide_eq_false c3
  clear c3
  obtain rfl := Option.some.inj H
  go_enter Try.func82, Try.ntmps82
  go_wp2_with (first | ((with_reducible refine gate_dst (N := 2) rfl ?_); (try (refine gate_guard (by rfl) ?_; dsimp only)); refine be_ (N := 2) (cs := #[.slice A0_0 l0_0.length c0_0, .int .i64 a0_1]) (t := 46) (h := ?_); intro gb219 hg w6 hbox hb; have BK219 := Aside0.mk (hbox); have GW219 := gw_ HB hg; have GE219 := gw_ HB hg; replace HB := bs_ HB hb; clear hb hbox hg))
  go_ret
  exact ⟨er_, hb_ HB⟩

end Go.Proofs.Ytkiokimpblimcaa.PTreeAdds
