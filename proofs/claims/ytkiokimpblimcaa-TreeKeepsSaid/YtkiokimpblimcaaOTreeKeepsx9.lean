/- Of the law calamus/calamuslaw11.TreeKeeps: each function as a plain Lean function, with a proof that the call comes to it; the row. By wip/tpl/own_print.py. Conditions: none but the row's own. -/
import Derived.Test.YtkiokimpblimcaaOTreeKeepsx0
import Derived.Test.YtkiokimpblimcaaOTreeKeepsx7
import Derived.Test.YtkiokimpblimcaaOTreeKeepsx8
namespace Go.Proofs.Ytkiokimpblimcaa.PTreeKeeps
open Go.RowKit Go.Proofs.YtkiokimpblimcaaW.PrintWords Go.Proofs.YtkiokimpblimcaaW.PrintLast Go.Proofs.YtkiokimpblimcaaW.PrintMore
attribute [local go_sem] max2_int min2_int max_two min_two max_three min_three max_four min_four   -- for this text's walks alone
set_option linter.unusedVariables false
set_option linter.unusedSimpArgs false

/-! ### calamuslaw11_lives: function 33 -/
def calamuslaw11_lives.f (k : Nat)  : Option (Bool) := (tree_New.f).bind fun bt219 => ((tree_Add.f k bt219.1 bt219.2 0 (⟨#[]⟩ : ByteArray) (⟨#[97]⟩ : ByteArray) 0 1).bind fun bt223 => ((tree_Undo.f k bt223.1 bt223.2.1).bind fun bt229 => ((tree_Add.f k bt229.1 bt229.2.1 0 (⟨#[]⟩ : ByteArray) (⟨#[98]⟩ : ByteArray) 0 1).bind fun bt236 => (if bt223.2.2 = 0 then (if bt229.2.2.1 = 1 then (if bt229.2.2.2 = true then (if bt236.2.2 = 0 then ((tree_Kids.f k bt236.1 bt236.2.1 0).bind fun t242 => ((calamusref01_Same.f k t242 (([1, 2] : List Int))).bind fun t248 => (if t248 = true then (if bt236.2.1 = 2 then (if (bt236.1.length : Int) = 3 then (if 0 < (bt236.1.length : Int) then (some (((rd_T69 bt236.1 0).f1) == 2)) else (none)) else (some false)) else (some false)) else (some false)))) else (some false)) else (some false)) else (some false)) else (some false)))))
theorem calamuslaw11_lives.mono : ∀ k, LeO (calamuslaw11_lives.f k ) (calamuslaw11_lives.f (k + 1) ) := by
 intro  k
 unfold calamuslaw11_lives.f
 repeat' first
   | (with_reducible exact calamusref01_Same.mono _ _ _)
   | (with_reducible exact tree_Add.mono _ _ _ _ _ _ _ _)
   | (with_reducible exact tree_Kids.mono _ _ _ _)
   | (with_reducible exact tree_Undo.mono _ _ _)
   | (with_reducible exact LeO.refl _)
   | (with_reducible exact LeO.none _)
   | (with_reducible refine LeO.ite ?_ ?_)
   | (with_reducible refine LeO.bind ?_ (fun _ => ?_))
   | exact calamusref01_Same.mono _ _ _
   | exact tree_Add.mono _ _ _ _ _ _ _ _
   | exact tree_Kids.mono _ _ _ _
   | exact tree_Undo.mono _ _ _
   | exact LeO.none _
   | refine LeO.ite ?_ ?_
   | refine LeO.bind ?_ (fun _ => ?_)
theorem calamuslaw11_lives.true_ {k : Nat} {r : Bool} (h : calamuslaw11_lives.f k = some r) : r = true := by
 have h1 := at_rounds (g := fun k => calamuslaw11_lives.f k) calamuslaw11_lives.mono (Nat.le_max_left k 60) h
 have h2 := at_rounds (g := fun k => calamuslaw11_lives.f k) calamuslaw11_lives.mono (Nat.le_max_right k 60) (show calamuslaw11_lives.f 60 = some true by decide +kernel)
 rw [h1] at h2
 exact Option.some.inj h2
set_option maxHeartbeats 8000000 in
set_option maxRecDepth 100000 in
theorem calamuslaw11_lives.calls (k : Nat)  (r : Bool) (w : World) (h : calamuslaw11_lives.f k  = some r) :
  Calls Try.prog 33 #[] w fun e w' => e = .returned (.bool r) ∧ Below w.heap.size w w' := by
 have hr_ := calamuslaw11_lives.true_ h
 have hu24 := Try.underlying24
 have hu46 := Try.underlying46
 have HB := Aside0.mk (Below.refl w.heap.size w)
 have H : ((tree_New.f).bind fun bt219 => ((tree_Add.f k bt219.1 bt219.2 0 (⟨#[]⟩ : ByteArray) (⟨#[97]⟩ : ByteArray) 0 1).bind fun bt223 => ((tree_Undo.f k bt223.1 bt223.2.1).bind fun bt229 => ((tree_Add.f k bt229.1 bt229.2.1 0 (⟨#[]⟩ : ByteArray) (⟨#[98]⟩ : ByteArray) 0 1).bind fun bt236 => (if bt223.2.2 = 0 then (if bt229.2.2.1 = 1 then (if bt229.2.2.2 = true then (if bt236.2.2 = 0 then ((tree_Kids.f k bt236.1 bt236.2.1 0).bind fun t242 => ((calamusref01_Same.f k t242 (([1, 2] : List Int))).bind fun t248 => (if t248 = true then (if bt236.2.1 = 2 then (if (bt236.1.length : Int) = 3 then (if 0 < (bt236.1.length : Int) then (some (((rd_T69 bt236.1 0).f1) == 2)) else (none)) else (some false)) else (some false)) else (some false)))) else (some false)) else (some false)) else (some false)) else (some false)))))) = some r := h
 clear h
 replace H := Option.bind_eq_some_iff.mp H
 obtain ⟨⟨t219, t222⟩, A10, H⟩ := H
 replace H : ((tree_Add.f k t219 t222 0 (⟨#[]⟩ : ByteArray) (⟨#[97]⟩ : ByteArray) 0 1).bind fun bt223 => ((tree_Undo.f k bt223.1 bt223.2.1).bind fun bt229 => ((tree_Add.f k bt229.1 bt229.2.1 0 (⟨#[]⟩ : ByteArray) (⟨#[98]⟩ : ByteArray) 0 1).bind fun bt236 => (if bt223.2.2 = 0 then (if bt229.2.2.1 = 1 then (if bt229.2.2.2 = true then (if bt236.2.2 = 0 then ((tree_Kids.f k bt236.1 bt236.2.1 0).bind fun t242 => ((calamusref01_Same.f k t242 (([1, 2] : List Int))).bind fun t248 => (if t248 = true then (if bt236.2.1 = 2 then (if (bt236.1.length : Int) = 3 then (if 0 < (bt236.1.length : Int) then (some (((rd_T69 bt236.1 0).f1) == 2)) else (none)) else (some false)) else (some false)) else (some false)))) else (some false)) else (some false)) else (some false)) else (some false))))) = some r := H
 have A1 := Aside0.mk A10
 clear A10
 replace H := Option.bind_eq_some_iff.mp H
 obtain ⟨⟨t223, t226, t227⟩, A20, H⟩ := H
 replace H : ((tree_Undo.f k t223 t226).bind fun bt229 => ((tree_Add.f k bt229.1 bt229.2.1 0 (⟨#[]⟩ : ByteArray) (⟨#[98]⟩ : ByteArray) 0 1).bind fun bt236 => (if t227 = 0 then (if bt229.2.2.1 = 1 then (if bt229.2.2.2 = true then (if bt236.2.2 = 0 then ((tree_Kids.f k bt236.1 bt236.2.1 0).bind fun t242 => ((calamusref01_Same.f k t242 (([1, 2] : List Int))).bind fun t248 => (if t248 = true then (if bt236.2.1 = 2 then (if (bt236.1.length : Int) = 3 then (if 0 < (bt236.1.length : Int) then (some (((rd_T69 bt236.1 0).f1) == 2)) else (none)) else (some false)) else (some false)) else (some false)))) else (some false)) else (some false)) else (some false)) else (some false)))) = some r := H
 have A2 := Aside0.mk A20
 clear A20
 replace H := Option.bind_eq_some_iff.mp H
 obtain ⟨⟨t229, t232, t233, t234⟩, A30, H⟩ := H
 replace H : ((tree_Add.f k t229 t232 0 (⟨#[]⟩ : ByteArray) (⟨#[98]⟩ : ByteArray) 0 1).bind fun bt236 => (if t227 = 0 then (if t233 = 1 then (if t234 = true then (if bt236.2.2 = 0 then ((tree_Kids.f k bt236.1 bt236.2.1 0).bind fun t242 => ((calamusref01_Same.f k t242 (([1, 2] : List Int))).bind fun t248 => (if t248 = true then (if bt236.2.1 = 2 then (if (bt236.1.length : Int) = 3 then (if 0 < (bt236.1.length : Int) then (some (((rd_T69 bt236.1 0).f1) == 2)) else (none)) else (some false)) else (some false)) else (some false)))) else (some false)) else (some false)) else (some false)) else (some false))) = some r := H
 have A3 := Aside0.mk A30
 clear A30
 replace H := Option.bind_eq_some_iff.mp H
 obtain ⟨⟨t236, t239, t240⟩, A40, H⟩ := H
 replace H : (if t227 = 0 then (if t233 = 1 then (if t234 = true then (if t240 = 0 then ((tree_Kids.f k t236 t239 0).bind fun t242 => ((calamusref01_Same.f k t242 (([1, 2] : List Int))).bind fun t248 => (if t248 = true then (if t239 = 2 then (if (t236.length : Int) = 3 then (if 0 < (t236.length : Int) then (some (((rd_T69 t236 0).f1) == 2)) else (none)) else (some false)) else (some false)) else (some false)))) else (some false)) else (some false)) else (some false)) else (some false)) = some r := H
 have A4 := Aside0.mk A40
 clear A40
 by_cases c5 : t227 = 0
 ·rw [if_pos c5] at H
  have c5b0 : (t227 == 0) = true := beq_iff_eq.mpr c5
  have c5b1 : (t227 != 0) = false := bne_eq_false_iff_eq.mpr c5
  clear c5
  by_cases c6 : t233 = 1
  ·rw [if_pos c6] at H
   have c6b0 : (t233 == 1) = true := beq_iff_eq.mpr c6
   have c6b1 : (t233 != 1) = false := bne_eq_false_iff_eq.mpr c6
   clear c6
   by_cases c7 : t234 = true
   ·subst c7
    have H1 : (if t240 = 0 then ((tree_Kids.f k t236 t239 0).bind fun t242 => ((calamusref01_Same.f k t242 (([1, 2] : List Int))).bind fun t248 => (if t248 = true then (if t239 = 2 then (if (t236.length : Int) = 3 then (if 0 < (t236.length : Int) then (some (((rd_T69 t236 0).f1) == 2)) else (none)) else (some false)) else (some false)) else (some false)))) else (some false)) = some r := by rw [if_pos rfl] at H; exact H
    clear H
    have H := H1
    clear H1
    by_cases c8 : t240 = 0
    ·rw [if_pos c8] at H
     have c8b0 : (t240 == 0) = true := beq_iff_eq.mpr c8
     have c8b1 : (t240 != 0) = false := bne_eq_false_iff_eq.mpr c8
     clear c8
     replace H := Option.bind_eq_some_iff.mp H
     obtain ⟨t242, A90, H⟩ := H
     replace H : ((calamusref01_Same.f k t242 (([1, 2] : List Int))).bind fun t248 => (if t248 = true then (if t239 = 2 then (if (t236.length : Int) = 3 then (if 0 < (t236.length : Int) then (some (((rd_T69 t236 0).f1) == 2)) else (none)) else (some false)) else (some false)) else (some false))) = some r := H
     have A9 := Aside0.mk A90
     clear A90
     obtain ⟨y245, hy245⟩ : ∃ y_ : List Int, y_ = (([1, 2] : List Int)) := ⟨_, rfl⟩
     replace H : ((calamusref01_Same.f k t242 y245).bind fun t248 => (if t248 = true then (if t239 = 2 then (if (t236.length : Int) = 3 then (if 0 < (t236.length : Int) then (some (((rd_T69 t236 0).f1) == 2)) else (none)) else (some false)) else (some false)) else (some false))) = some r := th_ H hy245
     have Ny245 := Aside0.mk hy245
     clear hy245
     replace H := Option.bind_eq_some_iff.mp H
     obtain ⟨t248, A100, H⟩ := H
     replace H : (if t248 = true then (if t239 = 2 then (if (t236.length : Int) = 3 then (if 0 < (t236.length : Int) then (some (((rd_T69 t236 0).f1) == 2)) else (none)) else (some false)) else (some false)) else (some false)) = some r := H
     have A10 := Aside0.mk A100
     clear A100
     by_cases c11 : t248 = true
     ·subst c11
      have H1 : (if t239 = 2 then (if (t236.length : Int) = 3 then (if 0 < (t236.length : Int) then (some (((rd_T69 t236 0).f1) == 2)) else (none)) else (some false)) else (some false)) = some r := by rw [if_pos rfl] at H; exact H
      clear H
      have H := H1
      clear H1
      by_cases c12 : t239 = 2
      ·rw [if_pos c12] at H
       have c12b0 : (t239 == 2) = true := beq_iff_eq.mpr c12
       have c12b1 : (t239 != 2) = false := bne_eq_false_iff_eq.mpr c12
       clear c12
       by_cases c13 : (t236.length : Int) = 3
       ·rw [if_pos c13] at H
        have c13b0 : ((t236.length : Int) == 3) = true := beq_iff_eq.mpr c13
        have c13b1 : ((t236.length : Int) != 3) = false := bne_eq_false_iff_eq.mpr c13
        clear c13
        by_cases c14 : 0 < (t236.length : Int)
        ·rw [if_pos c14] at H
         have c14b0 : decide (0 < (t236.length : Int)) = true := decide_eq_true c14
         have c14b1 : decide (0 < t236.length) = true := decide_eq_true (by omega)
         clear c14
         obtain rfl := Option.some.inj H
         go_enter Try.func33, Try.ntmps33
         go_wp2_with (first | ((with_reducible refine gate_callee (f := 40) rfl ?_); refine ge_ (some 9) rfl rfl Try.func40 (by kernel_rfl) rfl #[] rfl (h := ?_); (with_reducible refine (tree_New.calls  t219 t222 _ A1.out).mono ?_); rintro e w15 ⟨v220, rfl, ho0, hb⟩; refine ⟨_, rfl, ?_⟩; have HO221 := Aside0.mk (Kd.R_lower ho0 (below_size (hb_ HB))); replace HB := bs_ HB hb; (try clear hb); (try clear hb2); (try clear hk); (try clear hi); (try clear ho0); obtain ⟨Ao16, co16, eo16⟩ := Kd.R_slice HO221.out; subst eo16) | ((with_reducible refine gate_callee (f := 34) rfl ?_); refine ge_ (some 11) rfl rfl Try.func34 (by kernel_rfl) rfl #[.agg #[.slice Ao16 t219.length co16, .int .i64 t222], .agg #[.int .i64 0, .string (⟨#[]⟩ : ByteArray), .string (⟨#[97]⟩ : ByteArray)], .int .i64 0, .int .i64 1] rfl (h := ?_); (with_reducible refine (tree_Add.calls k _ _ t219 t222 0 (⟨#[]⟩ : ByteArray) (⟨#[97]⟩ : ByteArray) 0 1 t223 t226 t227 _ ?side1 ?side2 A2.out).mono ?_); (case side1 => repeat (first | exact (Kd.R_reads' HO221.out).2.2 | (with_reducible refine Kd.C_alloc ?_ _) | (with_reducible refine Kd.C_drewN ?_ _) | (with_reducible refine Kd.C_drew ?_))); (case side2 => exact (Kd.R_reads' HO221.out).2.1); rintro e w17 ⟨v224, rfl, ho0, hb⟩; refine ⟨_, rfl, ?_⟩; have HO225 := Aside0.mk (Kd.R_lower (Kd.R_new' ho0 (Kd.R_lt (rw_ HO221.out))) (below_size (hb_ HB))); replace HO221 := Aside0.mk (Kd.R_elder' (rw_ HO221.out) (Kd.R_base ho0) hb); replace HB := bs_ HB hb; (try clear hb); (try clear hb2); (try clear hk); (try clear hi); (try clear ho0)) | ((with_reducible refine gate_dst (N := 1) rfl ?_); (try (refine gate_guard (by rfl) ?_; dsimp only)); refine be_ (N := 1) (cs := #[.slice none 0 0, .int .i64 0]) (t := 46) (h := ?_); intro gb228 hg w18 hbox hb; have BK228 := Aside0.mk (hbox); have GW228 := gw_ HB hg; have GE228 := gw_ HB hg; replace HO221 := Aside0.mk (Kd.R_below (rw_ HO221.out) hb); replace HO225 := Aside0.mk (Kd.R_below (rw_ HO225.out) hb); replace HB := bs_ HB hb; clear hb hbox hg; obtain ⟨Ao19, co19, eo19⟩ := Kd.R_slice HO225.out; subst eo19; obtain ⟨hcz20_0, hcz20_1, hfz20_0, hfz20_1⟩ := bc2_ BK228) | ((with_reducible refine gate_callee (f := 42) rfl ?_); refine ge_ (some 16) rfl rfl Try.func42 (by kernel_rfl) rfl #[.agg #[.slice Ao19 t223.length co19, .int .i64 t226]] rfl (h := ?_); (with_reducible refine (tree_Undo.calls k _ _ t223 t226 t229 t232 t233 true _ ?side1 ?side2 A3.out).mono ?_); (case side1 => refine (Kd.R_reads' (e := 69) (base := w.heap.size) (ok := fun k_ => (True ∧ some k_ ≠ (.slice Ao16 t219.length co16 : Value).ownBlock)) (n := t223.length) (c := co19) ?_).2.2; exact (by (with_reducible repeat (first | apply Kd.R_alloc | apply Kd.R_drewN | apply Kd.R_drew)); exact (Kd.R_mono (rf_ (Kd.R_types HO225.out BK228.out (by decide)) (fun _ hk => hk.2)) (fun _ h_ => h_.1)))); (case side2 => exact (Kd.R_reads' HO225.out).2.1); rintro e w21 ⟨v230, rfl, ho0, hb⟩; refine ⟨_, rfl, ?_⟩; have HO231 := Aside0.mk (Kd.R_lower (Kd.R_new' (Kd.R_new' ho0 (Kd.R_lt (by (with_reducible repeat (first | apply Kd.R_alloc | apply Kd.R_drewN | apply Kd.R_drew)); exact (Kd.R_mono (rf_ (Kd.R_types HO221.out BK228.out (by decide)) (fun _ hk => hk.2)) (fun _ h_ => h_.1))))) (Kd.R_lt (by (with_reducible repeat (first | apply Kd.R_alloc | apply Kd.R_drewN | apply Kd.R_drew)); exact (Kd.R_mono (rf_ (Kd.R_types HO225.out BK228.out (by decide)) (fun _ hk => hk.2)) (fun _ h_ => h_.1))))) (below_size (hb_ HB))); replace HO221 := Aside0.mk (Kd.R_elder' (by (with_reducible repeat (first | apply Kd.R_alloc | apply Kd.R_drewN | apply Kd.R_drew)); exact (Kd.R_mono (rf_ (Kd.R_types HO221.out BK228.out (by decide)) (fun _ hk => hk.2)) (fun _ h_ => h_.1))) (Kd.R_base ho0) hb); replace HO225 := Aside0.mk (Kd.R_elder' (by (with_reducible repeat (first | apply Kd.R_alloc | apply Kd.R_drewN | apply Kd.R_drew)); exact (Kd.R_mono (rf_ (Kd.R_types HO225.out BK228.out (by decide)) (fun _ hk => hk.2)) (fun _ h_ => h_.1))) (Kd.R_base ho0) hb); replace HB := bs_ HB hb; replace BK228 := Aside0.mk (blk_below (g := gb228) (o := .cells #[.slice Ao19 t223.length co19, .int .i64 t226] 46 (0, 0)) (bp_ BK228.out) hb); (try clear hb); (try clear hb2); (try clear hk); (try clear hi); (try clear ho0)) | ((with_reducible refine gate_dst (N := 3) rfl ?_); (try (refine gate_guard (by rfl) ?_; dsimp only)); refine be_ (N := 3) (cs := #[.slice none 0 0, .int .i64 0]) (t := 46) (h := ?_); intro gb235 hg w22 hbox hb; have BK235 := Aside0.mk (hbox); have GW235 := gw_ HB hg; have GE235 := gw_ HB hg; have NB228_235 := ne_ BK228 hg; have NB235_228 := en_ BK228 hg; replace HO221 := Aside0.mk (Kd.R_below (rw_ HO221.out) hb); replace HO225 := Aside0.mk (Kd.R_below (rw_ HO225.out) hb); replace HO231 := Aside0.mk (Kd.R_below (rw_ HO231.out) hb); replace BK228 := bb_ BK228 hb; replace HB := bs_ HB hb; clear hb hbox hg; obtain ⟨Ao23, co23, eo23⟩ := Kd.R_slice HO231.out; subst eo23; have hnb24 := NB235_228.out; have hnc24 := NB228_235.out; obtain ⟨hcz25_0, hcz25_1, hfz25_0, hfz25_1⟩ := bc2_ BK235) | ((with_reducible refine gate_callee (f := 34) rfl ?_); refine ge_ (some 23) rfl rfl Try.func34 (by kernel_rfl) rfl #[.agg #[.slice Ao23 t229.length co23, .int .i64 t232], .agg #[.int .i64 0, .string (⟨#[]⟩ : ByteArray), .string (⟨#[98]⟩ : ByteArray)], .int .i64 0, .int .i64 1] rfl (h := ?_); (with_reducible refine (tree_Add.calls k _ _ t229 t232 0 (⟨#[]⟩ : ByteArray) (⟨#[98]⟩ : ByteArray) 0 1 t236 t239 t240 _ ?side1 ?side2 A4.out).mono ?_); (case side1 => refine (Kd.R_reads' (e := 69) (base := w.heap.size) (ok := fun k_ => ((True ∧ some k_ ≠ (.slice Ao16 t219.length co16 : Value).ownBlock) ∧ some k_ ≠ (.slice Ao19 t223.length co19 : Value).ownBlock)) (n := t229.length) (c := co23) ?_).2.2; exact (by (with_reducible repeat (first | apply Kd.R_alloc | apply Kd.R_drewN | apply Kd.R_drew)); exact (Kd.R_mono (rf_ (Kd.R_types HO231.out BK235.out (by decide)) (fun _ hk => hk.2)) (fun _ h_ => h_.1)))); (case side2 => exact (Kd.R_reads' HO231.out).2.1); rintro e w26 ⟨v237, rfl, ho0, hb⟩; refine ⟨_, rfl, ?_⟩; have HO238 := Aside0.mk (Kd.R_lower (Kd.R_new' (Kd.R_new' (Kd.R_new' ho0 (Kd.R_lt (by (with_reducible repeat (first | apply Kd.R_alloc | apply Kd.R_drewN | apply Kd.R_drew)); exact (Kd.R_mono (rf_ (Kd.R_types HO221.out BK235.out (by decide)) (fun _ hk => hk.2)) (fun _ h_ => h_.1))))) (Kd.R_lt (by (with_reducible repeat (first | apply Kd.R_alloc | apply Kd.R_drewN | apply Kd.R_drew)); exact (Kd.R_mono (rf_ (Kd.R_types HO225.out BK235.out (by decide)) (fun _ hk => hk.2)) (fun _ h_ => h_.1))))) (Kd.R_lt (by (with_reducible repeat (first | apply Kd.R_alloc | apply Kd.R_drewN | apply Kd.R_drew)); exact (Kd.R_mono (rf_ (Kd.R_types HO231.out BK235.out (by decide)) (fun _ hk => hk.2)) (fun _ h_ => h_.1))))) (below_size (hb_ HB))); replace HO221 := Aside0.mk (Kd.R_elder' (by (with_reducible repeat (first | apply Kd.R_alloc | apply Kd.R_drewN | apply Kd.R_drew)); exact (Kd.R_mono (rf_ (Kd.R_types HO221.out BK235.out (by decide)) (fun _ hk => hk.2)) (fun _ h_ => h_.1))) (Kd.R_base ho0) hb); replace HO225 := Aside0.mk (Kd.R_elder' (by (with_reducible repeat (first | apply Kd.R_alloc | apply Kd.R_drewN | apply Kd.R_drew)); exact (Kd.R_mono (rf_ (Kd.R_types HO225.out BK235.out (by decide)) (fun _ hk => hk.2)) (fun _ h_ => h_.1))) (Kd.R_base ho0) hb); replace HO231 := Aside0.mk (Kd.R_elder' (by (with_reducible repeat (first | apply Kd.R_alloc | apply Kd.R_drewN | apply Kd.R_drew)); exact (Kd.R_mono (rf_ (Kd.R_types HO231.out BK235.out (by decide)) (fun _ hk => hk.2)) (fun _ h_ => h_.1))) (Kd.R_base ho0) hb); replace BK228 := Aside0.mk (blk_below (g := gb228) (o := .cells #[.slice Ao19 t223.length co19, .int .i64 t226] 46 (0, 0)) (bp_ BK228.out) hb); replace HB := bs_ HB hb; replace BK235 := Aside0.mk (blk_below (g := gb235) (o := .cells #[.slice Ao23 t229.length co23, .int .i64 t232] 46 (0, 0)) (bp_ BK235.out) hb); (try clear hb); (try clear hb2); (try clear hk); (try clear hi); (try clear ho0)) | ((with_reducible refine gate_dst (N := 6) rfl ?_); (try (refine gate_guard (by rfl) ?_; dsimp only)); refine be_ (N := 6) (cs := #[.slice none 0 0, .int .i64 0]) (t := 46) (h := ?_); intro gb241 hg w27 hbox hb; have BK241 := Aside0.mk (hbox); have GW241 := gw_ HB hg; have GE241 := gw_ HB hg; have NB228_241 := ne_ BK228 hg; have NB241_228 := en_ BK228 hg; have NB235_241 := ne_ BK235 hg; have NB241_235 := en_ BK235 hg; replace HO221 := Aside0.mk (Kd.R_below (rw_ HO221.out) hb); replace HO225 := Aside0.mk (Kd.R_below (rw_ HO225.out) hb); replace HO231 := Aside0.mk (Kd.R_below (rw_ HO231.out) hb); replace HO238 := Aside0.mk (Kd.R_below (rw_ HO238.out) hb); replace BK228 := bb_ BK228 hb; replace BK235 := bb_ BK235 hb; replace HB := bs_ HB hb; clear hb hbox hg; obtain ⟨Ao28, co28, eo28⟩ := Kd.R_slice HO238.out; subst eo28; have hnb29 := NB241_228.out; have hnc29 := NB228_241.out; have hnb30 := NB241_235.out; have hnc30 := NB235_241.out; obtain ⟨hcz31_0, hcz31_1, hfz31_0, hfz31_1⟩ := bc2_ BK241) | (go_at_call 47; (with_reducible refine (tree_Kids.calls k _ _ t236 t239 0 t242 _ ?side1 ?side2 A9.out).mono ?_); (case side1 => refine (Kd.R_reads' (e := 69) (base := w.heap.size) (ok := fun k_ => (((True ∧ some k_ ≠ (.slice Ao16 t219.length co16 : Value).ownBlock) ∧ some k_ ≠ (.slice Ao19 t223.length co19 : Value).ownBlock) ∧ some k_ ≠ (.slice Ao23 t229.length co23 : Value).ownBlock)) (n := t236.length) (c := co28) ?_).2.2; exact (by (with_reducible repeat (first | apply Kd.R_alloc | apply Kd.R_drewN | apply Kd.R_drew)); exact (Kd.R_mono (rf_ (Kd.R_types HO238.out BK241.out (by decide)) (fun _ hk => hk.2)) (fun _ h_ => h_.1)))); (case side2 => exact (Kd.R_reads' HO238.out).2.1); rintro e w32 ⟨v243, rfl, ho0, hb⟩; have HO244 := Aside0.mk (Kd.R_lower ho0 (below_size (hb_ HB))); replace HO221 := Aside0.mk (Kd.R_below (by (with_reducible repeat (first | apply Kd.R_alloc | apply Kd.R_drewN | apply Kd.R_drew)); exact (Kd.R_mono (rf_ (Kd.R_types HO221.out BK241.out (by decide)) (fun _ hk => hk.2)) (fun _ h_ => h_.1))) hb); replace HO225 := Aside0.mk (Kd.R_below (by (with_reducible repeat (first | apply Kd.R_alloc | apply Kd.R_drewN | apply Kd.R_drew)); exact (Kd.R_mono (rf_ (Kd.R_types HO225.out BK241.out (by decide)) (fun _ hk => hk.2)) (fun _ h_ => h_.1))) hb); replace HO231 := Aside0.mk (Kd.R_below (by (with_reducible repeat (first | apply Kd.R_alloc | apply Kd.R_drewN | apply Kd.R_drew)); exact (Kd.R_mono (rf_ (Kd.R_types HO231.out BK241.out (by decide)) (fun _ hk => hk.2)) (fun _ h_ => h_.1))) hb); replace HO238 := Aside0.mk (Kd.R_below (by (with_reducible repeat (first | apply Kd.R_alloc | apply Kd.R_drewN | apply Kd.R_drew)); exact (Kd.R_mono (rf_ (Kd.R_types HO238.out BK241.out (by decide)) (fun _ hk => hk.2)) (fun _ h_ => h_.1))) hb); replace BK228 := Aside0.mk (blk_below (g := gb228) (o := .cells #[.slice Ao19 t223.length co19, .int .i64 t226] 46 (0, 0)) (bp_ BK228.out) hb); replace BK235 := Aside0.mk (blk_below (g := gb235) (o := .cells #[.slice Ao23 t229.length co23, .int .i64 t232] 46 (0, 0)) (bp_ BK235.out) hb); replace HB := bs_ HB hb; replace BK241 := Aside0.mk (blk_below (g := gb241) (o := .cells #[.slice Ao28 t236.length co28, .int .i64 t239] 46 (0, 0)) (bp_ BK241.out) hb); (try clear hb); (try clear hb2); (try clear hk); (try clear hi); (try clear ho0)) | ((with_reducible refine gate_dst (N := 42) rfl ?_); (try (refine gate_guard (by rfl) ?_; dsimp only)); refine Kd.R_lit (Kd.int .i64) _ 3 ?hg (N := 42) ?hd (xs := ([1, 2] : List Int)) (inner := [.int .i64 1, .int .i64 2]) (ok := fun _ => True) (okp := fun _ => True) ?hr ?hp (fun _ hk => hk) trivial (Below.refl _ _) (Nat.le_refl _) (by simp) ?_; (case hd => rfl); (case hg => rfl); (case hr => first | (go_simp; done) | (go_simp; rfl)); (case hp => exact (Reps.one (show Kd.M (Kd.int .i64) _ _ _ 1 [.int .i64 1] from rfl) (Reps.one (show Kd.M (Kd.int .i64) _ _ _ 2 [.int .i64 2] from rfl) (Reps.none _ _)))); intro v246 w33 ho34 hb hg_ hnew_; clear hg_ hnew_; (first | rw [← Ny245.out] at ho34 | (simp only [Int.reduceToNat] at ho34; rw [← Ny245.out] at ho34)); have HO247 := Aside0.mk (Kd.R_lower (Kd.R_new' ho34 (Kd.R_lt (rw_ HO244.out))) (below_size (hb_ HB))); replace HO221 := Aside0.mk (Kd.R_below (rw_ HO221.out) hb); replace HO225 := Aside0.mk (Kd.R_below (rw_ HO225.out) hb); replace HO231 := Aside0.mk (Kd.R_below (rw_ HO231.out) hb); replace HO238 := Aside0.mk (Kd.R_below (rw_ HO238.out) hb); replace HO244 := Aside0.mk (Kd.R_elder' (rw_ HO244.out) (Kd.R_base ho34) hb); replace BK228 := bb_ BK228 hb; replace BK235 := bb_ BK235 hb; replace BK241 := bb_ BK241 hb; replace HB := bs_ HB hb; clear hb ho34; obtain ⟨Ao35, co35, eo35⟩ := Kd.R_slice HO244.out; subst eo35; obtain ⟨Ao36, co36, eo36⟩ := Kd.R_slice HO247.out; subst eo36) | (go_at_call 46; (with_reducible refine (calamusref01_Same.calls k _ _ t242 _ _ y245 true _ ?side1 ?side2 ?side3 ?side4 A10.out).mono ?_); (case side1 => repeat (first | exact (Kd.R_reads' HO244.out).2.2 | (with_reducible refine Kd.C_alloc ?_ _) | (with_reducible refine Kd.C_drewN ?_ _) | (with_reducible refine Kd.C_drew ?_))); (case side2 => exact (Kd.R_reads' HO244.out).2.1); (case side3 => repeat (first | exact (Kd.R_reads' HO247.out).2.2 | (with_reducible refine Kd.C_alloc ?_ _) | (with_reducible refine Kd.C_drewN ?_ _) | (with_reducible refine Kd.C_drew ?_))); (case side4 => exact (Kd.R_reads' HO247.out).2.1); rintro e w' ⟨rfl, ⟨nd, rfl⟩⟩; obtain ⟨hcz37_0, hcz37_1, hfz37_0, hfz37_1⟩ := bc2_ BK241; have p249 : 0 ≤ (0 : Int) := (by omega); have q249 : 0 < (t236.length : Int) := of_decide_eq_true as_; obtain ⟨ad249, e249, hx249_0, hx249_1, hx249_2, hx249_3, hx249_4, hx249_5, hx249_6⟩ := at_T69 (Kd.R_reads' HO238.out).2.2 0 p249 q249; cases e249; have qi249 : (0 < t236.length) = True := eq_true (by omega); (try rw [show ((0 : Int)).toNat = 0 from rfl] at hx249_0); (try rw [show 0 * 7 = 0 from rfl] at hx249_0); (try rw [Addr.add_zero'] at hx249_0); (try rw [show ((0 : Int)).toNat = 0 from rfl] at hx249_1); (try rw [show 0 * 7 = 0 from rfl] at hx249_1); (try rw [Addr.add_zero'] at hx249_1); (try rw [show ((0 : Int)).toNat = 0 from rfl] at hx249_2); (try rw [show 0 * 7 = 0 from rfl] at hx249_2); (try rw [Addr.add_zero'] at hx249_2); (try rw [show ((0 : Int)).toNat = 0 from rfl] at hx249_3); (try rw [show 0 * 7 = 0 from rfl] at hx249_3); (try rw [Addr.add_zero'] at hx249_3); (try rw [show ((0 : Int)).toNat = 0 from rfl] at hx249_4); (try rw [show 0 * 7 = 0 from rfl] at hx249_4); (try rw [Addr.add_zero'] at hx249_4); (try rw [show ((0 : Int)).toNat = 0 from rfl] at hx249_5); (try rw [show 0 * 7 = 0 from rfl] at hx249_5); (try rw [Addr.add_zero'] at hx249_5); (try rw [show ((0 : Int)).toNat = 0 from rfl] at hx249_6); (try rw [show 0 * 7 = 0 from rfl] at hx249_6); (try rw [Addr.add_zero'] at hx249_6); replace p249 := eq_true p249; replace q249 := eq_true q249))
         go_ret
         exact ⟨er_, hb_ HB⟩
        ·rw [if_neg c14] at H
         exact absurd H (by simp)
       ·rw [if_neg c13] at H
        have c13b0 : ((t236.length : Int) == 3) = false := beq_eq_false_iff_ne.mpr c13
        have c13b1 : ((t236.length : Int) != 3) = true := bne_iff_ne.mpr c13
        exact nf_ H hr_
      ·rw [if_neg c12] at H
       have c12b0 : (t239 == 2) = false := beq_eq_false_iff_ne.mpr c12
       have c12b1 : (t239 != 2) = true := bne_iff_ne.mpr c12
       exact nf_ H hr_
     ·replace c11 := Bool.eq_false_iff.mpr c11
      subst c11
      have H1 : (some false) = some r := by rw [if_neg (show ¬ (false = true) by decide)] at H; exact H
      clear H
      have H := H1
      clear H1
      exact nf_ H hr_
    ·rw [if_neg c8] at H
     have c8b0 : (t240 == 0) = false := beq_eq_false_iff_ne.mpr c8
     have c8b1 : (t240 != 0) = true := bne_iff_ne.mpr c8
     exact nf_ H hr_
   ·replace c7 := Bool.eq_false_iff.mpr c7
    subst c7
    have H1 : (some false) = some r := by rw [if_neg (show ¬ (false = true) by decide)] at H; exact H
    clear H
    have H := H1
    clear H1
    exact nf_ H hr_
  ·rw [if_neg c6] at H
   have c6b0 : (t233 == 1) = false := beq_eq_false_iff_ne.mpr c6
   have c6b1 : (t233 != 1) = true := bne_iff_ne.mpr c6
   exact nf_ H hr_
 ·rw [if_neg c5] at H
  have c5b0 : (t227 == 0) = false := beq_eq_false_iff_ne.mpr c5
  have c5b1 : (t227 != 0) = true := bne_iff_ne.mpr c5
  exact nf_ H hr_
/-! ### tree_Right: function 36 -/
def tree_Right.f (k : Nat) (l0_0 : List (S69)) (a0_1 : Int) : Option (Bool) := (tree_open.f k l0_0 a0_1).bind fun bt251 => (some bt251.2.2)
theorem tree_Right.mono : ∀ a0 a1 k, LeO (tree_Right.f k a0 a1) (tree_Right.f (k + 1) a0 a1) := by
 intro a0 a1 k
 unfold tree_Right.f
 repeat' first
   | (with_reducible exact tree_open.mono _ _ _)
   | (with_reducible exact LeO.refl _)
   | (with_reducible exact LeO.none _)
   | (with_reducible refine LeO.ite ?_ ?_)
   | (with_reducible refine LeO.bind ?_ (fun _ => ?_))
   | exact tree_open.mono _ _ _
   | exact LeO.none _
   | refine LeO.ite ?_ ?_
   | refine LeO.bind ?_ (fun _ => ?_)
set_option maxHeartbeats 8000000 in
set_option maxRecDepth 100000 in
theorem tree_Right.calls (k : Nat) (A0_0 : Option Addr) (c0_0 : Nat) (l0_0 : List (S69)) (a0_1 : Int) (r : Bool) (w : World) (hr0_0 : Kd.C k69 w A0_0 l0_0.length l0_0) (hc0_0 : l0_0.length ≤ c0_0) (h : tree_Right.f k l0_0 a0_1 = some r) :
  Calls Try.prog 36 #[.agg #[.slice A0_0 l0_0.length c0_0, .int .i64 a0_1]] w fun e w' => e = .returned (.bool r) ∧ Below w.heap.size w w' := by
 have hu46 := Try.underlying46
 have hfd104_1 := fun (w : World) (c0 c1 c2 : Value) => (by kernel_rfl : (Instr.field 104 (.agg #[c0, c1, c2]) 1).run Try.prog w = .ok c2 w)
 have HR0_0 := Aside0.mk hr0_0
 have HC0_0 := Aside0.mk hc0_0
 clear hr0_0 hc0_0
 have HB := Aside0.mk (Below.refl w.heap.size w)
 have H : ((tree_open.f k l0_0 a0_1).bind fun bt251 => (some bt251.2.2)) = some r := h
 clear h
 replace H := Option.bind_eq_some_iff.mp H
 obtain ⟨⟨t251, t254, t255⟩, A20, H⟩ := H
 replace H : (some t255) = some r := H
 have A2 := Aside0.mk A20
 clear A20
 obtain rfl := Option.some.inj H
 go_enter Try.func36, Try.ntmps36
 go_wp2_with (first | ((with_reducible refine gate_dst (N := 1) rfl ?_); refine be_ (N := 1) (cs := #[.slice A0_0 l0_0.length c0_0, .int .i64 a0_1]) (t := 46) (h := ?_); intro gb250 hg w3 hbox hb; have BK250 := Aside0.mk (hbox); have GW250 := gw_ HB hg; have GE250 := gw_ HB hg; replace HB := bs_ HB hb; clear hb hbox hg; obtain ⟨hcz4_0, hcz4_1, hfz4_0, hfz4_1⟩ := bc2_ BK250) | ((with_reducible refine gate_callee (f := 79) rfl ?_); refine ge_ (some 4) rfl rfl Try.func79 (by kernel_rfl) rfl #[.agg #[.slice A0_0 l0_0.length c0_0, .int .i64 a0_1]] rfl (h := ?_); (with_reducible refine (tree_open.calls k (fun k_ => k_ < w.heap.size) _ _ l0_0 a0_1 t251 t254 t255 _ ?side1 A2.out).mono ?_); (case side1 => exact Kd.V_mk HC0_0.out (Kd.F_below (Kd.C_F k69_heap HR0_0.out) (hb_ HB))); rintro e w5 ⟨v252, rfl, ho0, hb⟩; refine ⟨_, rfl, ?_⟩; have HO253 := Aside0.mk (Kd.V_lower (Kd.V_mono (ok' := fun k_ => k_ ≠ gb250) ho0 (fun k_ hk_ => Or.elim hk_ (fun hs_ => fun e_ => Nat.not_le.2 hs_ (by rw [e_]; exact GW250.out)) (fun hn_ => (Kd.freshB (g := gb250) (o := .cells #[.slice A0_0 l0_0.length c0_0, .int .i64 a0_1] 46 (0, 0)) (bw_ BK250.out) k_ hn_)))) (below_size (hb_ HB))); replace BK250 := bb_ BK250 hb; replace HB := bs_ HB hb; (try clear hb); (try clear hb2); (try clear hk); (try clear hi); (try clear ho0)))
 go_ret
 exact ⟨er_, hb_ HB⟩

/-! ### change_Turn: function 25 -/
def change_Turn.f (a0_0 : Int) (a0_1 : ByteArray) (a0_2 : ByteArray) : Option (Int × ByteArray × ByteArray) := some (a0_0, a0_2, a0_1)
set_option maxHeartbeats 8000000 in
set_option maxRecDepth 100000 in
theorem change_Turn.calls (a0_0 : Int) (a0_1 : ByteArray) (a0_2 : ByteArray) (r1 : Int) (r2 : ByteArray) (r3 : ByteArray) (w : World) (h : change_Turn.f a0_0 a0_1 a0_2 = some (r1, r2, r3)) :
  Calls Try.prog 25 #[.agg #[.int .i64 a0_0, .string a0_1, .string a0_2]] w fun e w' => e = .returned (.agg #[.int .i64 r1, .string r2, .string r3]) ∧ Below w.heap.size w w' := by
 have hu24 := Try.underlying24
 have HB := Aside0.mk (Below.refl w.heap.size w)
 have H : (some (a0_0, a0_2, a0_1)) = some (r1, r2, r3) := h
 clear h
 simp only [Option.some.injEq, Prod.mk.injEq] at H
 obtain ⟨rfl, rfl, rfl⟩ := H
 go_enter Try.func25, Try.ntmps25
 go_wp2_with (first | ((with_reducible refine gate_dst (N := 1) rfl ?_); refine be_ (N := 1) (cs := #[.int .i64 a0_0, .string a0_1, .string a0_2]) (t := 24) (h := ?_); intro gb256 hg w2 hbox hb; have BK256 := Aside0.mk (hbox); have GW256 := gw_ HB hg; have GE256 := gw_ HB hg; replace HB := bs_ HB hb; clear hb hbox hg) | ((with_reducible refine gate_dst (N := 2) rfl ?_); refine be_ (N := 2) (cs := #[.int .i64 0, .string (⟨#[]⟩ : ByteArray), .string (⟨#[]⟩ : ByteArray)]) (t := 24) (h := ?_); intro gb257 hg w3 hbox hb; have BK257 := Aside0.mk (hbox); have GW257 := gw_ HB hg; have GE257 := gw_ HB hg; have NB256_257 := ne_ BK256 hg; have NB257_256 := en_ BK256 hg; replace BK256 := bb_ BK256 hb; replace HB := bs_ HB hb; clear hb hbox hg; have hnb4 := NB256_257.out; have hnc4 := NB257_256.out; obtain ⟨hcz5_0, hcz5_1, hcz5_2, hfz5_0, hfz5_1, hfz5_2⟩ := bc3_ BK256; obtain ⟨hcz6_0, hcz6_1, hcz6_2, hfz6_0, hfz6_1, hfz6_2⟩ := bc3_ BK257))
 refine bodyPost_ret (results_cell_row rfl _ _ gb257 24 #[.int .i64 a0_0, .string a0_2, .string a0_1] (0, 0) _ rfl (bp_ BK257.out) Try.underlying24 rfl (by kernel_rfl)) rfl ?_
 exact ⟨er_, hb_ HB⟩

/-! ### tree_book_up: function 87 -/
def tree_book_up.l0 : Nat → Int → List Int → List (S69) → Int → Option (List Int)
 | 0, _, _, _, _ => none
 | k + 1, x1, x5, x259000, x259001 => if x1 ≥ 0 then (if x5.length < 17592186044416 then (if 0 ≤ x1 then (if x1 < (x259000.length : Int) then (tree_book_up.l0 k ((rd_T69 x259000 x1).f0) (x5 ++ [x1]) x259000 x259001) else (none)) else (none)) else (none)) else (some x5)
def tree_book_up.f (k : Nat) (l0_0 : List (S69)) (a0_1 : Int) (a1 : Int) : Option (List Int) := tree_book_up.l0 k a1 ([] : List Int) l0_0 a0_1
theorem tree_book_up.mono_l : ∀ k, (∀ y0 y1 y2 y3, LeO (tree_book_up.l0 k y0 y1 y2 y3) (tree_book_up.l0 (k + 1) y0 y1 y2 y3))
 | 0 => fun _ _ _ _ r h => by simp [tree_book_up.l0] at h
 | k + 1 => by
  have ih0 := tree_book_up.mono_l k
  ·intro y0 y1 y2 y3
   unfold tree_book_up.l0
   repeat' first
   | (with_reducible exact ih0 _ _ _ _)
   | (with_reducible exact LeO.refl _)
   | (with_reducible exact LeO.none _)
   | (with_reducible refine LeO.ite ?_ ?_)
   | (with_reducible refine LeO.bind ?_ (fun _ => ?_))
   | exact ih0 _ _ _ _
   | exact LeO.none _
   | refine LeO.ite ?_ ?_
   | refine LeO.bind ?_ (fun _ => ?_)
theorem tree_book_up.mono : ∀ a0 a1 a2 k, LeO (tree_book_up.f k a0 a1 a2) (tree_book_up.f (k + 1) a0 a1 a2) := by
 intro a0 a1 a2 k
 have ih0 := tree_book_up.mono_l k
 unfold tree_book_up.f
 repeat' first
   | (with_reducible exact ih0 _ _ _ _)
   | (with_reducible exact LeO.refl _)
   | (with_reducible exact LeO.none _)
   | (with_reducible refine LeO.ite ?_ ?_)
   | (with_reducible refine LeO.bind ?_ (fun _ => ?_))
   | exact ih0 _ _ _ _
   | exact LeO.none _
   | refine LeO.ite ?_ ?_
   | refine LeO.bind ?_ (fun _ => ?_)
set_option maxHeartbeats 8000000 in
set_option maxRecDepth 100000 in
theorem tree_book_up.calls (k : Nat) (A0_0 : Option Addr) (c0_0 : Nat) (l0_0 : List (S69)) (a0_1 : Int) (a1 : Int) (r : List Int) (w : World) (hr0_0 : Kd.C k69 w A0_0 l0_0.length l0_0) (hc0_0 : l0_0.length ≤ c0_0) (h : tree_book_up.f k l0_0 a0_1 a1 = some r) :
  Calls Try.prog 87 #[.agg #[.slice A0_0 l0_0.length c0_0, .int .i64 a0_1], .int .i64 a1] w fun e w' => ∃ v0_ : Value, e = .returned (v0_) ∧ Kd.R (Kd.int .i64) 3 w' w.heap.size (fun _ => True) v0_ r ∧ Below w.heap.size w w' := by
 have hu102 := Try.underlying102
 have HR0_0 := Aside0.mk hr0_0
 have HC0_0 := Aside0.mk hc0_0
 clear hr0_0 hc0_0
 have HB := Aside0.mk (Below.refl w.heap.size w)
 have H : (tree_book_up.l0 k a1 ([] : List Int) l0_0 a0_1) = some r := h
 clear h
 have H' := Aside0.mk H
 clear H
 go_enter Try.func87, Try.ntmps87
 go_wp2_with (first | ((with_reducible refine gate_dst (N := 2) rfl ?_); refine be_ (N := 2) (cs := #[.slice A0_0 l0_0.length c0_0, .int .i64 a0_1]) (t := 102) (h := ?_); intro gb258 hg w3 hbox hb; have BK258 := Aside0.mk (hbox); have GW258 := gw_ HB hg; have GE258 := gw_ HB hg; replace HB := bs_ HB hb; clear hb hbox hg))
 go_loopg [1, 5] k (fun kq v1 v5 w' => ∃ (x1_1 : Int) (x5_1 : List Int), v1 = .int .i64 x1_1 ∧ Aside0 (tree_book_up.l0 kq x1_1 x5_1 l0_0 a0_1 = some r) ∧ Aside0 (kq ≤ k) ∧ Aside0 (Kd.R (Kd.int .i64) 3 w' w.heap.size (fun _ => True) v5 x5_1) ∧ Aside0 (w'.heap[gb258]? = some (.cells #[(.slice A0_0 l0_0.length c0_0), .int .i64 a0_1] 102 (0, 0))) ∧ Aside0 (Below w.heap.size w w'))
 case atStart => exact ⟨(a1), (([] : List Int)), es_, H', ⟨Nat.le_refl _⟩, ⟨by first | exact Kd.R_nil _ _ _ _ _ | exact Kd.N_nil _ _ _ _ _ | exact Kd.V_nil _ _ _ _ _ | exact Kd.Q_nil _ _ _ _ _ | exact Kd.S_nil _ _ _ _ _⟩, ⟨bw_ BK258.out⟩, ⟨hb_ HB⟩⟩
 case round =>
  clear H'
  obtain ⟨x1_1, x5_1, rfl, HA, HK1, HO_5, BK258, HB⟩ := hrel
  cases gk with
  | zero => exact absurd HA.out (by simp [tree_book_up.l0])
  | succ k1 =>
   have H := HA.out
   clear HA
   simp only [tree_book_up.l0] at H
   by_cases c4 : x1_1 ≥ 0
   ·rw [if_pos c4] at H
    have c4b0 : decide (0 ≤ x1_1) = true := decide_eq_true c4
    clear c4
    by_cases c5 : x5_1.length < 17592186044416
    ·rw [if_pos c5] at H
     have LMc5 := Aside0.mk c5
     clear c5
     obtain ⟨y259, hy259⟩ : ∃ y_ : List Int, y_ = (x5_1 ++ [x1_1]) := ⟨_, rfl⟩
     replace H : (if 0 ≤ x1_1 then (if x1_1 < (l0_0.length : Int) then (tree_book_up.l0 k1 ((rd_T69 l0_0 x1_1).f0) y259 l0_0 a0_1) else (none)) else (none)) = some r := th_ H hy259
     have Ny259 := Aside0.mk hy259
     clear hy259
     by_cases c6 : 0 ≤ x1_1
     ·rw [if_pos c6] at H
      have c6b0 : decide (0 ≤ x1_1) = true := decide_eq_true c6
      clear c6
      by_cases c7 : x1_1 < (l0_0.length : Int)
      ·rw [if_pos c7] at H
       have c7b0 : decide (x1_1 < (l0_0.length : Int)) = true := decide_eq_true c7
       clear c7
       have H' := Aside0.mk H
       clear H
       go_wp2_with (first | ((with_reducible refine gate_builtin (b := .append) (xs := #[.tmp 15, .tmp 17]) rfl ?_); at_builtin; refine Kd.R_append (Kd.int .i64) (w0 := w) w.heap.size rfl (.tmp 15) (.tmp 17) 59 3 (.int .i64 0) 8 rfl Try.underlying59 info3 rfl (by decide) (by omega) u5 x5_1 x1_1 [.int .i64 x1_1] (fun _ => True) (fun _ => False) rfl rfl ?aP (fun _ hk => hk.elim) ?aF ?aO ?aB ?aS ?aL ?_; (case aP => exact rfl); (case aB => exact (hb_ HB)); (case aF => exact (fun _ _ => trivial)); (case aO => exact (rw_ HO_5.out)); (case aS => exact (below_size (hb_ HB))); (case aL => have := LMc5.out; omega); intro v260 w8 ho hb hg hat; rw [← Ny259.out] at ho; have n0_ := Aside0.mk (blk_grown (g := gb258) (o := .cells #[.slice A0_0 l0_0.length c0_0, .int .i64 a0_1] 102 (0, 0)) (bw_ BK258.out) hg (Kd.R_ne HO_5.out BK258.out (by decide))); have n1_ := Aside0.mk (hb); have n2_ := Aside0.mk (ho); clear BK258; clear HB; clear HO_5; have BK258 := n0_; have HB := n1_; have HO261 := n2_; clear n0_ n1_ n2_; clear ho hb hg hat; obtain ⟨hcz9_0, hcz9_1, hfz9_0, hfz9_1⟩ := bc2_ BK258; have p262 : 0 ≤ (x1_1 : Int) := of_decide_eq_true as_; have q262 : x1_1 < (l0_0.length : Int) := of_decide_eq_true as_; obtain ⟨ad262, e262, hx262_0, hx262_1, hx262_2, hx262_3, hx262_4, hx262_5, hx262_6⟩ := at_T69 HR0_0.out x1_1 p262 q262; cases e262; replace hx262_0 := cb_ HB hx262_0; replace hx262_1 := cb_ HB hx262_1; replace hx262_2 := cb_ HB hx262_2; replace hx262_3 := cb_ HB hx262_3; replace hx262_4 := cb_ HB hx262_4; replace hx262_5 := cb_ HB hx262_5; replace hx262_6 := cb_ HB hx262_6; replace p262 := eq_true p262; replace q262 := eq_true q262))
       go_roundg k1
       case measure => have := HK1.out; omega
       case rel => exact ⟨((rd_T69 l0_0 x1_1).f0), (y259), es_, H', ⟨by have := HK1.out; omega⟩, ⟨rw_ HO261.out⟩, ⟨bw_ BK258.out⟩, ⟨hb_ HB⟩⟩
      ·rw [if_neg c7] at H
       exact absurd H (by simp)
     ·rw [if_neg c6] at H
      exact absurd H (by simp)
    ·rw [if_neg c5] at H
     exact absurd H (by simp)
   ·rw [if_neg c4] at H
    have c4b0 : decide (0 ≤ x1_1) = false := decide_eq_false c4
    clear c4
    obtain rfl := Option.some.inj H
    go_wp2
    go_ret
    exact ⟨_, er_, by (with_reducible repeat (first | apply Kd.R_alloc | apply Kd.R_drewN | apply Kd.R_drew)); exact HO_5.out, hb_ HB⟩

end Go.Proofs.Ytkiokimpblimcaa.PTreeKeeps
