/- Of the law calamus/calamuslaw33.RecordReads: each function as a plain Lean function, with a proof that the call comes to it; the row. By wip/tpl/own_print.py. Conditions: none but the row's own. -/
import Derived.Test.YtealbonfaebikaaORecordReadsx0
namespace Go.Proofs.Ytealbonfaebikaa.PRecordReads
open Go.RowKit Go.Proofs.YtealbonfaebikaaW.PrintWords Go.Proofs.YtealbonfaebikaaW.PrintLast Go.Proofs.YtealbonfaebikaaW.PrintMore
attribute [local go_sem] max2_int min2_int max_two min_two max_three min_three max_four min_four   -- for this text's walks alone
set_option linter.unusedVariables false
set_option linter.unusedSimpArgs false

/-! ### record_Pressed: function 13 -/
def record_Pressed.f (a0 : Int) (a1 : Int) (a2 : Int) : Option (Int × Int × Int × ByteArray) := some (1, a0, a1, strOfNums (([a2] : List Int)))
set_option maxHeartbeats 8000000 in
set_option maxRecDepth 100000 in
theorem record_Pressed.calls (a0 : Int) (a1 : Int) (a2 : Int) (r1 : Int) (r2 : Int) (r3 : Int) (r4 : ByteArray) (w : World) (h : record_Pressed.f a0 a1 a2 = some (r1, r2, r3, r4)) :
  Calls Try.prog 13 #[.int .i64 a0, .int .i64 a1, .int .u8 a2] w fun e w' => e = .returned (.agg #[.int .i64 r1, .int .i64 r2, .int .i64 r3, .string r4]) ∧ Below w.heap.size w w' := by
 have hu24 := Try.underlying24
 have HB := Aside0.mk (Below.refl w.heap.size w)
 have H : (some (1, a0, a1, strOfNums (([a2] : List Int)))) = some (r1, r2, r3, r4) := h
 clear h
 obtain ⟨y102, hy102⟩ : ∃ y_ : List Int, y_ = (([a2] : List Int)) := ⟨_, rfl⟩
 replace H : (some (1, a0, a1, strOfNums y102)) = some (r1, r2, r3, r4) := th_ H hy102
 have Ny102 := Aside0.mk hy102
 clear hy102
 simp only [Option.some.injEq, Prod.mk.injEq] at H
 obtain ⟨rfl, rfl, rfl, rfl⟩ := H
 go_enter Try.func13, Try.ntmps13
 go_wp2_with (first | ((with_reducible refine gate_dst (N := 6) rfl ?_); refine be_ (N := 6) (cs := #[.int .i64 0, .int .i64 0, .int .i64 0, .string (⟨#[]⟩ : ByteArray)]) (t := 24) (h := ?_); intro gb101 hg w4 hbox hb; have BK101 := Aside0.mk (hbox); have GW101 := gw_ HB hg; have GE101 := gw_ HB hg; replace HB := bs_ HB hb; clear hb hbox hg) | ((with_reducible refine gate_dst (N := 10) rfl ?_); refine Kd.R_lit (Kd.int .u8) _ 5 ?hg (N := 10) ?hd (xs := ([a2] : List Int)) (inner := [.int .u8 a2]) (ok := fun _ => True) (okp := fun _ => True) ?hr ?hp (fun _ hk => hk) trivial (Below.refl _ _) (Nat.le_refl _) (by simp) ?_; (case hd => rfl); (case hg => rfl); (case hr => first | (go_simp; done) | (go_simp; rfl)); (case hp => exact (Reps.one (show Kd.M (Kd.int .u8) _ _ _ a2 [.int .u8 a2] from rfl) (Reps.none _ _))); intro v103 w5 ho6 hb hg_ hnew_; clear hg_ hnew_; (first | rw [← Ny102.out] at ho6 | (simp only [Int.reduceToNat] at ho6; rw [← Ny102.out] at ho6)); have HO104 := Aside0.mk (Kd.R_lower ho6 (below_size (hb_ HB))); replace BK101 := bb_ BK101 hb; replace HB := bs_ HB hb; clear hb ho6; have hcv7 := own_string (P := Try.prog) Try.underlying84 Try.underlying5 Try.underlying9 (Kd.own_of_R HO104.out); obtain ⟨hcz8_0, hcz8_1, hcz8_2, hcz8_3, hfz8_0, hfz8_1, hfz8_2, hfz8_3⟩ := bc4_ BK101))
 refine bodyPost_ret (results_cell_row rfl _ _ gb101 24 #[.int .i64 1, .int .i64 a0, .int .i64 a1, .string (strOfNums y102)] (0, 0) _ rfl (bp_ BK101.out) Try.underlying24 rfl (by kernel_rfl)) rfl ?_
 exact ⟨er_, hb_ HB⟩

/-! ### record_Right: function 20 -/
def record_Right.f (a0_0 : Int) (a0_1 : Int) (a0_2 : Int) (a0_3 : ByteArray) : Option (Bool) := if a0_0 = 1 then (if a0_1 ≥ 1 then (if a0_1 ≤ 2147483647 then (if a0_2 ≥ 0 then (if a0_2 ≤ 2147483647 then (some (decide ((a0_3.size : Int) ≤ 64))) else (some false)) else (some false)) else (some false)) else (some false)) else (if a0_0 = 2 then (if a0_1 ≥ 1 then (if a0_1 ≤ 2147483647 then (if a0_2 ≥ 0 then (if a0_2 ≤ 2147483647 then (some (decide ((a0_3.size : Int) ≤ 64))) else (some false)) else (some false)) else (some false)) else (some false)) else (some false))
set_option maxHeartbeats 8000000 in
set_option maxRecDepth 100000 in
theorem record_Right.calls (a0_0 : Int) (a0_1 : Int) (a0_2 : Int) (a0_3 : ByteArray) (r : Bool) (w : World) (h : record_Right.f a0_0 a0_1 a0_2 a0_3 = some r) :
  Calls Try.prog 20 #[.agg #[.int .i64 a0_0, .int .i64 a0_1, .int .i64 a0_2, .string a0_3]] w fun e w' => e = .returned (.bool r) ∧ Below w.heap.size w w' := by
 have hu24 := Try.underlying24
 have HB := Aside0.mk (Below.refl w.heap.size w)
 have H : (if a0_0 = 1 then (if a0_1 ≥ 1 then (if a0_1 ≤ 2147483647 then (if a0_2 ≥ 0 then (if a0_2 ≤ 2147483647 then (some (decide ((a0_3.size : Int) ≤ 64))) else (some false)) else (some false)) else (some false)) else (some false)) else (if a0_0 = 2 then (if a0_1 ≥ 1 then (if a0_1 ≤ 2147483647 then (if a0_2 ≥ 0 then (if a0_2 ≤ 2147483647 then (some (decide ((a0_3.size : Int) ≤ 64))) else (some false)) else (some false)) else (some false)) else (some false)) else (some false))) = some r := h
 clear h
 by_cases c2 : a0_0 = 1
 ·rw [if_pos c2] at H
  have c2b0 : (a0_0 == 1) = true := beq_iff_eq.mpr c2
  have c2b1 : (a0_0 != 1) = false := bne_eq_false_iff_eq.mpr c2
  clear c2
  by_cases c3 : a0_1 ≥ 1
  ·rw [if_pos c3] at H
   have c3b0 : decide (1 ≤ a0_1) = true := decide_eq_true c3
   clear c3
   by_cases c4 : a0_1 ≤ 2147483647
   ·rw [if_pos c4] at H
    have c4b0 : decide (a0_1 ≤ 2147483647) = true := decide_eq_true c4
    clear c4
    by_cases c5 : a0_2 ≥ 0
    ·rw [if_pos c5] at H
     have c5b0 : decide (0 ≤ a0_2) = true := decide_eq_true c5
     clear c5
     by_cases c6 : a0_2 ≤ 2147483647
     ·rw [if_pos c6] at H
      have c6b0 : decide (a0_2 ≤ 2147483647) = true := decide_eq_true c6
      clear c6
      obtain rfl := Option.some.inj H
      go_enter Try.func20, Try.ntmps20
      go_wp2_with (first | ((with_reducible refine gate_dst (N := 1) rfl ?_); (try (refine gate_guard (by rfl) ?_; dsimp only)); refine be_ (N := 1) (cs := #[.int .i64 a0_0, .int .i64 a0_1, .int .i64 a0_2, .string a0_3]) (t := 24) (h := ?_); intro gb105 hg w7 hbox hb; have BK105 := Aside0.mk (hbox); have GW105 := gw_ HB hg; have GE105 := gw_ HB hg; replace HB := bs_ HB hb; clear hb hbox hg; obtain ⟨hcz8_0, hcz8_1, hcz8_2, hcz8_3, hfz8_0, hfz8_1, hfz8_2, hfz8_3⟩ := bc4_ BK105))
      go_ret
      exact ⟨er_, hb_ HB⟩
     ·rw [if_neg c6] at H
      have c6b0 : decide (a0_2 ≤ 2147483647) = false := decide_eq_false c6
      clear c6
      obtain rfl := Option.some.inj H
      go_enter Try.func20, Try.ntmps20
      go_wp2_with (first | ((with_reducible refine gate_dst (N := 1) rfl ?_); (try (refine gate_guard (by rfl) ?_; dsimp only)); refine be_ (N := 1) (cs := #[.int .i64 a0_0, .int .i64 a0_1, .int .i64 a0_2, .string a0_3]) (t := 24) (h := ?_); intro gb105 hg w9 hbox hb; have BK105 := Aside0.mk (hbox); have GW105 := gw_ HB hg; have GE105 := gw_ HB hg; replace HB := bs_ HB hb; clear hb hbox hg; obtain ⟨hcz10_0, hcz10_1, hcz10_2, hcz10_3, hfz10_0, hfz10_1, hfz10_2, hfz10_3⟩ := bc4_ BK105))
      go_ret
      exact ⟨er_, hb_ HB⟩
    ·rw [if_neg c5] at H
     have c5b0 : decide (0 ≤ a0_2) = false := decide_eq_false c5
     clear c5
     obtain rfl := Option.some.inj H
     go_enter Try.func20, Try.ntmps20
     go_wp2_with (first | ((with_reducible refine gate_dst (N := 1) rfl ?_); (try (refine gate_guard (by rfl) ?_; dsimp only)); refine be_ (N := 1) (cs := #[.int .i64 a0_0, .int .i64 a0_1, .int .i64 a0_2, .string a0_3]) (t := 24) (h := ?_); intro gb105 hg w11 hbox hb; have BK105 := Aside0.mk (hbox); have GW105 := gw_ HB hg; have GE105 := gw_ HB hg; replace HB := bs_ HB hb; clear hb hbox hg; obtain ⟨hcz12_0, hcz12_1, hcz12_2, hcz12_3, hfz12_0, hfz12_1, hfz12_2, hfz12_3⟩ := bc4_ BK105))
     go_ret
     exact ⟨er_, hb_ HB⟩
   ·rw [if_neg c4] at H
    have c4b0 : decide (a0_1 ≤ 2147483647) = false := decide_eq_false c4
    clear c4
    obtain rfl := Option.some.inj H
    go_enter Try.func20, Try.ntmps20
    go_wp2_with (first | ((with_reducible refine gate_dst (N := 1) rfl ?_); (try (refine gate_guard (by rfl) ?_; dsimp only)); refine be_ (N := 1) (cs := #[.int .i64 a0_0, .int .i64 a0_1, .int .i64 a0_2, .string a0_3]) (t := 24) (h := ?_); intro gb105 hg w13 hbox hb; have BK105 := Aside0.mk (hbox); have GW105 := gw_ HB hg; have GE105 := gw_ HB hg; replace HB := bs_ HB hb; clear hb hbox hg; obtain ⟨hcz14_0, hcz14_1, hcz14_2, hcz14_3, hfz14_0, hfz14_1, hfz14_2, hfz14_3⟩ := bc4_ BK105))
    go_ret
    exact ⟨er_, hb_ HB⟩
  ·rw [if_neg c3] at H
   have c3b0 : decide (1 ≤ a0_1) = false := decide_eq_false c3
   clear c3
   obtain rfl := Option.some.inj H
   go_enter Try.func20, Try.ntmps20
   go_wp2_with (first | ((with_reducible refine gate_dst (N := 1) rfl ?_); (try (refine gate_guard (by rfl) ?_; dsimp only)); refine be_ (N := 1) (cs := #[.int .i64 a0_0, .int .i64 a0_1, .int .i64 a0_2, .string a0_3]) (t := 24) (h := ?_); intro gb105 hg w15 hbox hb; have BK105 := Aside0.mk (hbox); have GW105 := gw_ HB hg; have GE105 := gw_ HB hg; replace HB := bs_ HB hb; clear hb hbox hg; obtain ⟨hcz16_0, hcz16_1, hcz16_2, hcz16_3, hfz16_0, hfz16_1, hfz16_2, hfz16_3⟩ := bc4_ BK105))
   go_ret
   exact ⟨er_, hb_ HB⟩
 ·rw [if_neg c2] at H
  have c2b0 : (a0_0 == 1) = false := beq_eq_false_iff_ne.mpr c2
  have c2b1 : (a0_0 != 1) = true := bne_iff_ne.mpr c2
  by_cases c17 : a0_0 = 2
  ·rw [if_pos c17] at H
   have c17b0 : (a0_0 == 2) = true := beq_iff_eq.mpr c17
   have c17b1 : (a0_0 != 2) = false := bne_eq_false_iff_eq.mpr c17
   clear c17
   by_cases c18 : a0_1 ≥ 1
   ·rw [if_pos c18] at H
    have c18b0 : decide (1 ≤ a0_1) = true := decide_eq_true c18
    clear c18
    by_cases c19 : a0_1 ≤ 2147483647
    ·rw [if_pos c19] at H
     have c19b0 : decide (a0_1 ≤ 2147483647) = true := decide_eq_true c19
     clear c19
     by_cases c20 : a0_2 ≥ 0
     ·rw [if_pos c20] at H
      have c20b0 : decide (0 ≤ a0_2) = true := decide_eq_true c20
      clear c20
      by_cases c21 : a0_2 ≤ 2147483647
      ·rw [if_pos c21] at H
       have c21b0 : decide (a0_2 ≤ 2147483647) = true := decide_eq_true c21
       clear c21
       obtain rfl := Option.some.inj H
       go_enter Try.func20, Try.ntmps20
       go_wp2_with (first | ((with_reducible refine gate_dst (N := 1) rfl ?_); (try (refine gate_guard (by rfl) ?_; dsimp only)); refine be_ (N := 1) (cs := #[.int .i64 a0_0, .int .i64 a0_1, .int .i64 a0_2, .string a0_3]) (t := 24) (h := ?_); intro gb105 hg w22 hbox hb; have BK105 := Aside0.mk (hbox); have GW105 := gw_ HB hg; have GE105 := gw_ HB hg; replace HB := bs_ HB hb; clear hb hbox hg; obtain ⟨hcz23_0, hcz23_1, hcz23_2, hcz23_3, hfz23_0, hfz23_1, hfz23_2, hfz23_3⟩ := bc4_ BK105))
       go_ret
       exact ⟨er_, hb_ HB⟩
      ·rw [if_neg c21] at H
       have c21b0 : decide (a0_2 ≤ 2147483647) = false := decide_eq_false c21
       clear c21
       obtain rfl := Option.some.inj H
       go_enter Try.func20, Try.ntmps20
       go_wp2_with (first | ((with_reducible refine gate_dst (N := 1) rfl ?_); (try (refine gate_guard (by rfl) ?_; dsimp only)); refine be_ (N := 1) (cs := #[.int .i64 a0_0, .int .i64 a0_1, .int .i64 a0_2, .string a0_3]) (t := 24) (h := ?_); intro gb105 hg w24 hbox hb; have BK105 := Aside0.mk (hbox); have GW105 := gw_ HB hg; have GE105 := gw_ HB hg; replace HB := bs_ HB hb; clear hb hbox hg; obtain ⟨hcz25_0, hcz25_1, hcz25_2, hcz25_3, hfz25_0, hfz25_1, hfz25_2, hfz25_3⟩ := bc4_ BK105))
       go_ret
       exact ⟨er_, hb_ HB⟩
     ·rw [if_neg c20] at H
      have c20b0 : decide (0 ≤ a0_2) = false := decide_eq_false c20
      clear c20
      obtain rfl := Option.some.inj H
      go_enter Try.func20, Try.ntmps20
      go_wp2_with (first | ((with_reducible refine gate_dst (N := 1) rfl ?_); (try (refine gate_guard (by rfl) ?_; dsimp only)); refine be_ (N := 1) (cs := #[.int .i64 a0_0, .int .i64 a0_1, .int .i64 a0_2, .string a0_3]) (t := 24) (h := ?_); intro gb105 hg w26 hbox hb; have BK105 := Aside0.mk (hbox); have GW105 := gw_ HB hg; have GE105 := gw_ HB hg; replace HB := bs_ HB hb; clear hb hbox hg; obtain ⟨hcz27_0, hcz27_1, hcz27_2, hcz27_3, hfz27_0, hfz27_1, hfz27_2, hfz27_3⟩ := bc4_ BK105))
      go_ret
      exact ⟨er_, hb_ HB⟩
    ·rw [if_neg c19] at H
     have c19b0 : decide (a0_1 ≤ 2147483647) = false := decide_eq_false c19
     clear c19
     obtain rfl := Option.some.inj H
     go_enter Try.func20, Try.ntmps20
     go_wp2_with (first | ((with_reducible refine gate_dst (N := 1) rfl ?_); (try (refine gate_guard (by rfl) ?_; dsimp only)); refine be_ (N := 1) (cs := #[.int .i64 a0_0, .int .i64 a0_1, .int .i64 a0_2, .string a0_3]) (t := 24) (h := ?_); intro gb105 hg w28 hbox hb; have BK105 := Aside0.mk (hbox); have GW105 := gw_ HB hg; have GE105 := gw_ HB hg; replace HB := bs_ HB hb; clear hb hbox hg; obtain ⟨hcz29_0, hcz29_1, hcz29_2, hcz29_3, hfz29_0, hfz29_1, hfz29_2, hfz29_3⟩ := bc4_ BK105))
     go_ret
     exact ⟨er_, hb_ HB⟩
   ·rw [if_neg c18] at H
    have c18b0 : decide (1 ≤ a0_1) = false := decide_eq_false c18
    clear c18
    obtain rfl := Option.some.inj H
    go_enter Try.func20, Try.ntmps20
    go_wp2_with (first | ((with_reducible refine gate_dst (N := 1) rfl ?_); (try (refine gate_guard (by rfl) ?_; dsimp only)); refine be_ (N := 1) (cs := #[.int .i64 a0_0, .int .i64 a0_1, .int .i64 a0_2, .string a0_3]) (t := 24) (h := ?_); intro gb105 hg w30 hbox hb; have BK105 := Aside0.mk (hbox); have GW105 := gw_ HB hg; have GE105 := gw_ HB hg; replace HB := bs_ HB hb; clear hb hbox hg; obtain ⟨hcz31_0, hcz31_1, hcz31_2, hcz31_3, hfz31_0, hfz31_1, hfz31_2, hfz31_3⟩ := bc4_ BK105))
    go_ret
    exact ⟨er_, hb_ HB⟩
  ·rw [if_neg c17] at H
   have c17b0 : (a0_0 == 2) = false := beq_eq_false_iff_ne.mpr c17
   have c17b1 : (a0_0 != 2) = true := bne_iff_ne.mpr c17
   obtain rfl := Option.some.inj H
   go_enter Try.func20, Try.ntmps20
   go_wp2_with (first | ((with_reducible refine gate_dst (N := 1) rfl ?_); (try (refine gate_guard (by rfl) ?_; dsimp only)); refine be_ (N := 1) (cs := #[.int .i64 a0_0, .int .i64 a0_1, .int .i64 a0_2, .string a0_3]) (t := 24) (h := ?_); intro gb105 hg w32 hbox hb; have BK105 := Aside0.mk (hbox); have GW105 := gw_ HB hg; have GE105 := gw_ HB hg; replace HB := bs_ HB hb; clear hb hbox hg; obtain ⟨hcz33_0, hcz33_1, hcz33_2, hcz33_3, hfz33_0, hfz33_1, hfz33_2, hfz33_3⟩ := bc4_ BK105))
   go_ret
   exact ⟨er_, hb_ HB⟩

/-! ### strings_Join: function 73, by hand (strings.Join.lean) -/
section
open Go.Shelf
def shelf_lays156_ren : Go.Shelf.Ren := ⟨fun | 156 => 73 | 165 => 104 | 166 => 77 | 169 => 78 | 240 => 108 | 241 => 112 | 276 => 116 | 277 => 120 | n => n, fun | 31 => 75 | 9 => 9 | 3 => 3 | 4 => 4 | 0 => 0 | 20 => 20 | 72 => 117 | 76 => 122 | 70 => 115 | 37 => 84 | 75 => 121 | 127 => 141 | 164 => 149 | 5 => 5 | 80 => 124 | n => n, fun | n => n⟩
theorem shelf_lays156 : Go.Proofs.Lays.n156 Try.prog shelf_lays156_ren := {
 mixed := by kernel_rfl
 f156 := Try.func73.trans (congrArg some (by kernel_rfl))
 f165 := Try.func104.trans (congrArg some (by kernel_rfl))
 f166 := Try.func77.trans (congrArg some (by kernel_rfl))
 f169 := Try.func78.trans (congrArg some (by kernel_rfl))
 f240 := Try.func108.trans (congrArg some (by kernel_rfl))
 f241 := Try.func112.trans (congrArg some (by kernel_rfl))
 f276 := Try.func116.trans (congrArg some (by kernel_rfl))
 f277 := Try.func120.trans (congrArg some (by kernel_rfl))
 t0 := Try.underlying0
 a0 := Try.isAgg0
 z0 := Try.sizeOf0
 v0 := Try.zeroValue0
 t3 := Try.underlying3
 a3 := Try.isAgg3
 z3 := Try.sizeOf3
 v3 := Try.zeroValue3
 t4 := Try.underlying4
 a4 := Try.isAgg4
 z4 := Try.sizeOf4
 v4 := Try.zeroValue4
 t9 := Try.underlying9
 a9 := Try.isAgg9
 z9 := Try.sizeOf9
 v9 := Try.zeroValue9
 t20 := Try.underlying20
 a20 := Try.isAgg20
 z20 := Try.sizeOf20
 v20 := Try.zeroValue20
 t31 := Try.underlying75
 a31 := Try.isAgg75
 z31 := Try.sizeOf75
 v31 := Try.zeroValue75
 t37 := Try.underlying84
 a37 := Try.isAgg84
 z37 := Try.sizeOf84
 v37 := Try.zeroValue84
 t70 := Try.underlying115
 a70 := Try.isAgg115
 z70 := Try.sizeOf115
 v70 := Try.zeroValue115
 t72 := Try.underlying117
 a72 := Try.isAgg117
 z72 := Try.sizeOf117
 v72 := Try.zeroValue117
 t75 := Try.underlying121
 a75 := Try.isAgg121
 z75 := Try.sizeOf121
 v75 := Try.zeroValue121
 t76 := Try.underlying122
 a76 := Try.isAgg122
 z76 := Try.sizeOf122
 v76 := Try.zeroValue122
 t127 := Try.underlying141
 a127 := Try.isAgg141
 z127 := Try.sizeOf141
 v127 := Try.zeroValue141
 t164 := Try.underlying149
 a164 := Try.isAgg149
 z164 := Try.sizeOf149
 v164 := Try.zeroValue149 }
theorem shelf_Builder_Extra_156 : Builder.Extra Try.prog shelf_lays156_ren := {
 sizeBuilder := by kernel_rfl
 liesBuilder := by kernel_rfl
 t5 := Try.underlying5
 a5 := Try.isAgg5
 z5 := Try.sizeOf5
 v5 := Try.zeroValue5
 infoByte := by kernel_rfl
 cellsByte := by kernel_rfl
 sizeByte := by kernel_rfl
 neB5 := by decide }
open Go.RowKit in
theorem shelf_strings_Join_none (a : Option Addr) (c : Nat) (sep : ByteArray) (w : World) :
  Calls Try.prog 73 #[.slice a 0 c, .string sep] w fun e w' => e = .returned (.string ⟨#[]⟩) ∧ w' = w := Any.strings_Join_none shelf_lays156 shelf_Builder_Extra_156 a c sep w
open Go.RowKit in
theorem shelf_strings_Join (bk o c : Nat) (xs : List ByteArray) (sep : ByteArray) (w : World) (hcells : ∀ (j : Nat) x, xs[j]? = some x → w.cell? ⟨bk, o + j, none⟩ = some (.string x)) (hbk : bk < w.heap.size) (hN : xs.length ≤ 140737488355328) (hcap : xs.length ≤ c) (hlen : (Lib.join (xs.map (·.data.toList)) sep.data.toList).length ≤ 140737488355328) :
  Calls Try.prog 73 #[.slice (some ⟨bk, o, none⟩) xs.length c, .string sep] w fun e w' => e = .returned (.string ⟨(Lib.join (xs.map (·.data.toList)) sep.data.toList).toArray⟩) ∧ Below w.heap.size w w' := Any.strings_Join shelf_lays156 shelf_Builder_Extra_156 bk o c xs sep w hcells hbk hN hcap hlen
end
def strings_Join.f (l0 : List ByteArray) (a1 : ByteArray) : Option ByteArray := if l0.length ≤ 1000000 ∧ (Lib.join (l0.map (·.data.toList)) a1.data.toList).length ≤ 140737488355328 then some ⟨(Lib.join (l0.map (·.data.toList)) a1.data.toList).toArray⟩ else none
theorem spot_none {w : World} {a : Addr} {v : Value} (h : w.cell? a = some v) : a.spot = none := by
 unfold World.cell? at h
 split at h
 ·cases hs : a.spot with
  | none => rfl
  | some x => rw [hs] at h; simp at h
 ·cases h
set_option maxRecDepth 100000 in
theorem strings_Join.calls (A0 : Option Addr) (c0 : Nat) (l0 : List ByteArray) (a1 : ByteArray) (r : ByteArray) (w : World) (hr0 : Kd.C Kd.string w A0 l0.length l0) (hc0 : l0.length ≤ c0) (h : strings_Join.f l0 a1 = some r) :
  Calls Try.prog 73 #[.slice A0 l0.length c0, .string a1] w fun e w' => e = .returned (.string r) ∧ Below w.heap.size w w' := by
 have hh : (l0.length ≤ 1000000 ∧ (Lib.join (l0.map (·.data.toList)) a1.data.toList).length ≤ 140737488355328) ∧ (⟨(Lib.join (l0.map (·.data.toList)) a1.data.toList).toArray⟩ : ByteArray) = r := by
  unfold strings_Join.f at h
  by_cases g : l0.length ≤ 1000000 ∧ (Lib.join (l0.map (·.data.toList)) a1.data.toList).length ≤ 140737488355328
  ·rw [if_pos g] at h; exact ⟨g, Option.some.inj h⟩
  ·rw [if_neg g] at h; exact absurd h (by simp)
 clear h
 obtain ⟨⟨h1, h2⟩, rfl⟩ := hh
 cases l0 with
 | nil =>
  have e : (⟨(Lib.join (([] : List ByteArray).map (·.data.toList)) a1.data.toList).toArray⟩ : ByteArray) = ⟨#[]⟩ := rfl
  rw [e]
  have q := shelf_strings_Join_none A0 c0 a1 w
  show Calls Try.prog 73 #[.slice A0 0 c0, .string a1] w _
  exact q.mono fun e w' ⟨he, hw⟩ => ⟨he, hw ▸ Below.refl _ _⟩
 | cons x t =>
  obtain ⟨ad, e, hx⟩ := Kd.at_string hr0 0 (by omega) (by simp only [List.length_cons]; omega)
  subst e
  have hs := spot_none hx
  obtain ⟨bk, o, sp⟩ := ad
  obtain rfl : sp = none := by
   cases sp with
   | none => rfl
   | some q => unfold Addr.add at hs; split at hs <;> simp_all
  have hadd : ∀ n, (⟨bk, o, none⟩ : Addr).add n = ⟨bk, o + n, none⟩ := fun n => by unfold Addr.add; split <;> simp_all
  have c1 : ∀ (j : Nat) y, (x :: t)[j]? = some y → w.cell? ⟨bk, o + j, none⟩ = some (.string y) := fun j y hj => by
   have hjl : j < (x :: t).length := (List.getElem?_eq_some_iff.1 hj).1
   obtain ⟨ad', e', hx'⟩ := Kd.at_string hr0 (j : Int) (by omega) (by omega)
   cases e'
   rw [hadd, Int.toNat_natCast] at hx'
   rw [hx']
   unfold rdOf
   rw [Int.toNat_natCast, List.getD_eq_getElem?_getD, hj]; rfl
  have c2 : bk < w.heap.size := by
   have := World.block_lt_of_cell? w _ hx
   rw [hadd] at this
   exact this
  have c3 : (x :: t).length ≤ 140737488355328 := Nat.le_trans h1 (by decide)
  exact shelf_strings_Join bk o c0 (x :: t) a1 w c1 c2 c3 hc0 h2

/-! ### record_glue: function 51 -/
def record_glue.f (l0 : List ByteArray) : Option (ByteArray) := (strings_Join.f l0 (⟨#[]⟩ : ByteArray)).bind fun t106 => (some t106)
set_option maxHeartbeats 8000000 in
set_option maxRecDepth 100000 in
theorem record_glue.calls (A0 : Option Addr) (c0 : Nat) (l0 : List ByteArray) (r : ByteArray) (w : World) (hr0 : Kd.C Kd.string w A0 l0.length l0) (hc0 : l0.length ≤ c0) (h : record_glue.f l0 = some r) :
  Calls Try.prog 51 #[.slice A0 l0.length c0] w fun e w' => e = .returned (.string r) ∧ Below w.heap.size w w' := by
 have HR0 := Aside0.mk hr0
 have HC0 := Aside0.mk hc0
 clear hr0 hc0
 have HB := Aside0.mk (Below.refl w.heap.size w)
 have H : ((strings_Join.f l0 (⟨#[]⟩ : ByteArray)).bind fun t106 => (some t106)) = some r := h
 clear h
 replace H := Option.bind_eq_some_iff.mp H
 obtain ⟨t106, A20, H⟩ := H
 replace H : (some t106) = some r := H
 have A2 := Aside0.mk A20
 clear A20
 obtain rfl := Option.some.inj H
 go_enter Try.func51, Try.ntmps51
 go_wp2_with (first | ((with_reducible refine gate_callee (f := 73) rfl ?_); refine ge_ (some 4) rfl rfl Try.func73 (by kernel_rfl) rfl #[.slice A0 l0.length c0, .string (⟨#[]⟩ : ByteArray)] rfl (h := ?_); (with_reducible refine (strings_Join.calls _ _ l0 (⟨#[]⟩ : ByteArray) t106 _ ?side1 ?side2 A2.out).mono ?_); (case side1 => exact cw_ HR0.out); (case side2 => exact HC0.out); rintro e w3 ⟨rfl, hb⟩; refine ⟨_, rfl, ?_⟩; replace HB := bs_ HB hb; (try clear hb); (try clear hb2); (try clear hk); (try clear hi)))
 go_ret
 exact ⟨er_, hb_ HB⟩

/-! ### code_Num: function 52 -/
mutual
def code_Num.j0 : Nat → Int → Bool → Option (ByteArray)
 | 0, _, _ => none
 | k + 1, x0, x10 => if x10 = true then (some (⟨#[]⟩ : ByteArray)) else (if 4 ≤ 281474976710656 then (code_Num.l0 k x0 (List.replicate 4 0) 0) else (none))
def code_Num.l0 : Nat → Int → List Int → Int → Option (ByteArray)
 | 0, _, _, _ => none
 | k + 1, x0, x3, x12 => if x12 < 4 then (if 0 ≤ (wrap64 (8 * x12)) then (if 0 ≤ x12 then (if x12 < (x3.length : Int) then (code_Num.l0 k x0 (x3.set (x12 : Int).toNat ((shr .i64 x0 (wrap64 (8 * x12))) % 256)) (wrap64 (x12 + 1))) else (none)) else (none)) else (none)) else (some (strOfNums x3))
end
def code_Num.f (k : Nat) (a0 : Int) : Option (ByteArray) := if a0 < 0 then (code_Num.j0 k a0 true) else (code_Num.j0 k a0 (decide (a0 > 2147483647)))
theorem code_Num.mono_l : ∀ k, (∀ y0 y1, LeO (code_Num.j0 k y0 y1) (code_Num.j0 (k + 1) y0 y1)) ∧ (∀ y0 y1 y2, LeO (code_Num.l0 k y0 y1 y2) (code_Num.l0 (k + 1) y0 y1 y2))
 | 0 => ⟨fun _ _ r h => by simp [code_Num.j0] at h, fun _ _ _ r h => by simp [code_Num.l0] at h⟩
 | k + 1 => by
  obtain ⟨ih0, ih1⟩ := code_Num.mono_l k
  refine ⟨?_, ?_⟩
  ·intro y0 y1
   unfold code_Num.j0
   repeat' first
   | (with_reducible exact ih0 _ _)
   | (with_reducible exact ih1 _ _ _)
   | (with_reducible exact LeO.refl _)
   | (with_reducible exact LeO.none _)
   | (with_reducible refine LeO.ite ?_ ?_)
   | (with_reducible refine LeO.bind ?_ (fun _ => ?_))
   | exact ih0 _ _
   | exact ih1 _ _ _
   | exact LeO.none _
   | refine LeO.ite ?_ ?_
   | refine LeO.bind ?_ (fun _ => ?_)
  ·intro y0 y1 y2
   unfold code_Num.l0
   repeat' first
   | (with_reducible exact ih0 _ _)
   | (with_reducible exact ih1 _ _ _)
   | (with_reducible exact LeO.refl _)
   | (with_reducible exact LeO.none _)
   | (with_reducible refine LeO.ite ?_ ?_)
   | (with_reducible refine LeO.bind ?_ (fun _ => ?_))
   | exact ih0 _ _
   | exact ih1 _ _ _
   | exact LeO.none _
   | refine LeO.ite ?_ ?_
   | refine LeO.bind ?_ (fun _ => ?_)
theorem code_Num.mono : ∀ a0 k, LeO (code_Num.f k a0) (code_Num.f (k + 1) a0) := by
 intro a0 k
 obtain ⟨ih0, ih1⟩ := code_Num.mono_l k
 unfold code_Num.f
 repeat' first
   | (with_reducible exact ih0 _ _)
   | (with_reducible exact ih1 _ _ _)
   | (with_reducible exact LeO.refl _)
   | (with_reducible exact LeO.none _)
   | (with_reducible refine LeO.ite ?_ ?_)
   | (with_reducible refine LeO.bind ?_ (fun _ => ?_))
   | exact ih0 _ _
   | exact ih1 _ _ _
   | exact LeO.none _
   | refine LeO.ite ?_ ?_
   | refine LeO.bind ?_ (fun _ => ?_)
set_option maxHeartbeats 8000000 in
set_option maxRecDepth 100000 in
theorem code_Num.calls (k : Nat) (a0 : Int) (r : ByteArray) (w : World) (h : code_Num.f k a0 = some r) :
  Calls Try.prog 52 #[.int .i64 a0] w fun e w' => e = .returned (.string r) ∧ Below w.heap.size w w' := by
 have HB := Aside0.mk (Below.refl w.heap.size w)
 have H : (if a0 < 0 then (code_Num.j0 k a0 true) else (code_Num.j0 k a0 (decide (a0 > 2147483647)))) = some r := h
 clear h
 have HC2 := Aside0.mk H
 clear H
 go_enter Try.func52, Try.ntmps52
 go_upto_region 1 with (fail)
 go_cut [10] (fun v10 wc => ∃ (kq : Nat) (x10_1 : Bool), v10 = .bool x10_1 ∧ Aside0 (code_Num.j0 kq a0 x10_1 = some r) ∧ Aside0 (kq ≤ k) ∧ Aside0 (Below w.heap.size w wc))
 case first =>
  have H := HC2.out
  clear HC2
  by_cases c3 : a0 < 0
  ·rw [if_pos c3] at H
   have c3b0 : decide (a0 < 0) = true := decide_eq_true c3
   clear c3
   (first | rw [c3b0] | (simp only [i64_w, i32_w]; rw [c3b0]) | skip)
   have H' := Aside0.mk H
   clear H
   go_wp2
   go_meet
   case rel => exact ⟨_, (true), es_, H', ⟨by first | omega | exact Nat.le_refl _⟩, ⟨hb_ HB⟩⟩
  ·rw [if_neg c3] at H
   have c3b0 : decide (a0 < 0) = false := decide_eq_false c3
   clear c3
   (first | rw [c3b0] | (simp only [i64_w, i32_w]; rw [c3b0]) | skip)
   have H' := Aside0.mk H
   clear H
   go_wp2
   go_meet
   case rel => exact ⟨_, (decide (a0 > 2147483647)), es_, H', ⟨by first | omega | exact Nat.le_refl _⟩, ⟨hb_ HB⟩⟩
 case rest =>
  clear HC2
  obtain ⟨kq, x10_1, rfl, HA, HJ1, HB⟩ := hcut
  cases kq with
  | zero => exact absurd HA.out (by simp [code_Num.j0])
  | succ kj1 =>
   have H := HA.out
   clear HA
   simp only [code_Num.j0] at H
   by_cases c4 : x10_1 = true
   ·subst c4
    have H1 : (some (⟨#[]⟩ : ByteArray)) = some r := by rw [if_pos rfl] at H; exact H
    clear H
    have H := H1
    clear H1
    obtain rfl := Option.some.inj H
    go_wp2
    go_ret
    exact ⟨er_, hb_ HB⟩
   ·replace c4 := Bool.eq_false_iff.mpr c4
    subst c4
    have H1 : (if 4 ≤ 281474976710656 then (code_Num.l0 kj1 a0 (List.replicate 4 0) 0) else (none)) = some r := by rw [if_neg (show ¬ (false = true) by decide)] at H; exact H
    clear H
    have H := H1
    clear H1
    by_cases c5 : 4 ≤ 281474976710656
    ·rw [if_pos c5] at H
     have c5b0 := eq_true c5
     have c5b1 : decide (4 ≤ 281474976710656) = true := decide_eq_true c5
     clear c5
     obtain ⟨y107, hy107⟩ : ∃ y_ : List Int, y_ = (List.replicate 4 0) := ⟨_, rfl⟩
     replace H : (code_Num.l0 kj1 a0 y107 0) = some r := th_ H hy107
     have Ny107 := Aside0.mk hy107
     clear hy107
     have H' := Aside0.mk H
     clear H
     go_wp2_with (first | ((with_reducible refine gate_dst (N := 11) rfl ?_); refine Kd.R_make (Kd.int .u8) _ 5 rfl (N := 11) rfl 84 _ _ rfl 4 rfl rfl Try.underlying84 (.int .u8 0) 1 info5 rfl (by decide) (by omega) 0 (ok := fun _ => True) (okp := fun _ => True) rfl (fun _ hk => hk) trivial (by omega) (by omega) (Below.refl _ _) (Nat.le_refl _) ?_; intro v108 w6 ho7 hb hg_ hnew_; clear hg_ hnew_; (first | rw [← Ny107.out] at ho7 | (simp only [Int.reduceToNat] at ho7; rw [← Ny107.out] at ho7)); have HO109 := Aside0.mk (Kd.R_lower ho7 (below_size (hb_ HB))); replace HB := bs_ HB hb; clear hb ho7))
     go_loopg [12] kj1 (fun kq v12 w' => ∃ (x3_2 : List Int) (x12_2 : Int), v12 = .int .i64 x12_2 ∧ Aside0 (code_Num.l0 kq a0 x3_2 x12_2 = some r) ∧ Aside0 (kq ≤ kj1) ∧ Aside0 (Kd.R (Kd.int .u8) 5 w' w.heap.size (fun _ => True) v108 x3_2) ∧ Aside0 (Below w.heap.size w w'))
     case atStart => exact ⟨(y107), (0), es_, H', ⟨Nat.le_refl _⟩, ⟨rw_ HO109.out⟩, ⟨hb_ HB⟩⟩
     case round =>
      clear H'
      try clear c4
      try clear c5
      try clear c5b0
      try clear c5b1
      obtain ⟨x3_2, x12_2, rfl, HA, HK2, HO_3, HB⟩ := hrel
      cases gk with
      | zero => exact absurd HA.out (by simp [code_Num.l0])
      | succ k2 =>
       have H := HA.out
       clear HA
       simp only [code_Num.l0] at H
       by_cases c8 : x12_2 < 4
       ·rw [if_pos c8] at H
        have c8b0 : decide (x12_2 < 4) = true := decide_eq_true c8
        clear c8
        obtain ⟨ji9, hji9⟩ : ∃ j_ : Int, (wrap64 (8 * x12_2)) = j_ := ⟨_, rfl⟩
        replace H : (if 0 ≤ (ji9) then (if 0 ≤ x12_2 then (if x12_2 < (x3_2.length : Int) then (code_Num.l0 k2 a0 (x3_2.set (x12_2 : Int).toNat ((shr .i64 a0 (ji9)) % 256)) (wrap64 (x12_2 + 1))) else (none)) else (none)) else (none)) = some r := by first | (rw [hji9] at H; exact H) | (simp only [hji9] at H ⊢; exact H)
        have hji9w : (IntKind.i64.wrap (8 * x12_2)) = ji9 := (i64_w _).trans hji9
        by_cases c10 : 0 ≤ (ji9)
        ·rw [if_pos c10] at H
         have c10b0 := eq_true c10
         have c10b1 : decide (0 ≤ (ji9)) = true := decide_eq_true c10
         clear c10
         obtain ⟨ji11, hji11⟩ : ∃ j_ : Int, (shr .i64 a0 (ji9)) = j_ := ⟨_, rfl⟩
         replace H : (if 0 ≤ x12_2 then (if x12_2 < (x3_2.length : Int) then (code_Num.l0 k2 a0 (x3_2.set (x12_2 : Int).toNat ((ji11) % 256)) (wrap64 (x12_2 + 1))) else (none)) else (none)) = some r := by first | (rw [hji11] at H; exact H) | (simp only [hji11] at H ⊢; exact H)
         have hji11_ : (a0 / 2 ^ min (ji9).toNat 64) = ji11 := hji11
         have hji11z : (ji9) ≤ 64 → (a0 / 2 ^ (ji9).toNat) = ji11 := shr_small hji11
         by_cases c12 : 0 ≤ x12_2
         ·rw [if_pos c12] at H
          have c12b0 : decide (0 ≤ x12_2) = true := decide_eq_true c12
          clear c12
          by_cases c13 : x12_2 < (x3_2.length : Int)
          ·rw [if_pos c13] at H
           have c13b0 : decide (x12_2 < (x3_2.length : Int)) = true := decide_eq_true c13
           clear c13
           obtain ⟨y110, hy110⟩ : ∃ y_ : List Int, y_ = (x3_2.set (x12_2 : Int).toNat ((ji11) % 256)) := ⟨_, rfl⟩
           replace H : (code_Num.l0 k2 a0 y110 (wrap64 (x12_2 + 1))) = some r := th_ H hy110
           have Ny110 := Aside0.mk hy110
           clear hy110
           have H' := Aside0.mk H
           clear H
           have p14 : 0 ≤ (x12_2 : Int) := of_decide_eq_true as_
           have q14 : (x12_2 : Int) < ((x3_2.length : Int) : Int) := of_decide_eq_true as_
           obtain ⟨go14, co14, eo14, gb14, gl14, cl14, HG14⟩ := Kd.R_form HO_3.out (by omega)
           (first | cases eo14 | (injection eo14 with ea_ en_ ec_; (first | subst ea_ | (injection ea_ with ea_; subst ea_)); subst ec_; clear en_))
           have GB14 := Aside0.mk gb14
           have GG14 := Aside0.mk HG14
           clear gb14 gl14 HG14
           obtain ⟨hx14_0, hf14_0⟩ := Kd.R_celln 0 HO_3.out (x12_2 : Int) p14 q14
           replace p14 := eq_true p14
           replace q14 := eq_true q14
           have HP15 := Kd.R_putg HO_3.out (x12_2 : Int) ((ji11) % 256)
           go_wp2_with (first | ((with_reducible refine gate_store (t := 5) (p := 22) rfl ?_); refine store_event (t := 5) (p := 22) (v := ?vo_w16) (w1 := (wr.setCell ⟨go14, (x12_2 : Int).toNat, none⟩ (.int .u8 ((ji11) % 256)))) ?hg ?ho ?hn ?hr ?_; (case ho => rfl); (case hg => rfl); (case hn => rfl); (case hr => first | (go_simp; done) | (go_simp; rfl)); intro w16 hw; have hg : wr.grownBy w16 (some go14) := (by rw [hw]; exact HP15.2); have hp_ : Kd.R (Kd.int .u8) 5 w16 w.heap.size (fun _ => True) (.slice (some ⟨go14, 0, none⟩) x3_2.length co14) y110 := (by rw [hw, Ny110.out]; exact HP15.1); clear HP15; replace HO_3 := Aside0.mk (hp_); replace HB := Aside0.mk ((by rw [hw]; exact below_set (HB.out) GB14.out : Below w.heap.size w w16)); clear hg hw hp_))
           go_roundg k2
           case measure => have := HJ1.out; have := HK2.out; omega
           case rel => exact ⟨(y110), (wrap64 (x12_2 + 1)), es_, H', ⟨by have := HJ1.out; have := HK2.out; omega⟩, ⟨rw_ HO_3.out⟩, ⟨hb_ HB⟩⟩
          ·rw [if_neg c13] at H
           exact absurd H (by simp)
         ·rw [if_neg c12] at H
          exact absurd H (by simp)
        ·rw [if_neg c10] at H
         exact absurd H (by simp)
       ·rw [if_neg c8] at H
        have c8b0 : decide (x12_2 < 4) = false := decide_eq_false c8
        clear c8
        obtain rfl := Option.some.inj H
        have hcv17 := own_string (P := Try.prog) Try.underlying84 Try.underlying5 Try.underlying9 (Kd.own_of_R HO_3.out)
        go_wp2
        go_ret
        exact ⟨er_, hb_ HB⟩
    ·rw [if_neg c5] at H
     exact absurd H (by simp)

/-! ### crc_bytes: function 82, by hand (crc.bytes.lean) -/
def sumByte (a : Int) (i : Nat) : Int := a / 2 ^ (8 * i) % 256
def bArr (a : Int) (k : Nat) : Array Value := #[.int .u8 (if 0 < k then sumByte a 0 else 0), .int .u8 (if 1 < k then sumByte a 1 else 0), .int .u8 (if 2 < k then sumByte a 2 else 0), .int .u8 (if 3 < k then sumByte a 3 else 0)]
def crc_bytes.f (a0 : Int) : Option ByteArray := some (strOfNums [sumByte a0 0, sumByte a0 1, sumByte a0 2, sumByte a0 3])
theorem crc_bytes_string {P : Program} {w : World} {src dst e t : TypeId} {g : Nat} {a b c d : Int} (hs : P.underlying src = some (.slice e)) (he : P.underlying e = some (.int .u8)) (hd : P.underlying dst = some .string)
  (h : w.heap[g]? = some (.cells #[.int .u8 a, .int .u8 b, .int .u8 c, .int .u8 d] t (0, 0))) : (convert src dst (.slice (some ⟨g, 0, none⟩) 4 4)).run P w = .ok (.string (strOfNums [a, b, c, d])) w := by
 have hr := run_convert_bytes_arg (P := P) w src e hs he g 0 4 4 [a, b, c, d] rfl (fun i hi => by
  rw [Nat.zero_add, blk_cell h i]
  match i, hi with
  | 0, _ => rfl
  | 1, _ => rfl
  | 2, _ => rfl
  | 3, _ => rfl) dst hd
 rw [hr]
set_option maxHeartbeats 4000000 in
set_option maxRecDepth 100000 in
theorem crc_bytes.calls (a0 : Int) (r : ByteArray) (w : World) (h : crc_bytes.f a0 = some r) :
  Calls Try.prog 82 #[.int .i64 a0] w fun e w' => e = .returned (.string r) ∧ Below w.heap.size w w' := by
 have HB := Aside0.mk (Below.refl w.heap.size w)
 obtain rfl := Option.some.inj h
 clear h
 go_enter Try.func82, Try.ntmps82
 go_wp2_with (first | ((with_reducible refine gate_dst (N := 3) rfl ?_); refine be_ (N := 3) (cs := bArr a0 0) (t := 142) (h := ?_); intro g1 hg w2 hbox hb; have B1 := Aside0.mk hbox; have G1 := gw_ HB hg; replace HB := bs_ HB hb; clear hb hbox hg))
 go_loopw [5] (fun n wr => ∃ k : Nat, k ≤ 4 ∧ n = .int .i64 k ∧ Aside0 (wr.heap[g1]? = some (.cells (bArr a0 k) 142 (0, 0))) ∧ Aside0 (Below w.heap.size w wr)) (fun n _ => 4 - (intOf n).toNat)
 case atStart => exact ⟨0, by decide, rfl, B1, HB⟩
 case round =>
  clear B1 HB
  obtain ⟨k, hk, rfl, B1, HB⟩ := hrel
  by_cases hlt : k < 4
  ·have e0 : ∀ j : Nat, sumByte a0 j = a0 / 2 ^ (8 * j) % 256 := fun _ => rfl
   have hm : k = 0 ∨ k = 1 ∨ k = 2 ∨ k = 3 := by omega
   obtain ⟨h0, h1, h2, h3, f0, f1, f2, f3⟩ := bc4_ B1
   have E0 := Aside0.mk e0
   clear e0
   rcases hm with rfl | rfl | rfl | rfl
   ·go_wp2
    go_roundw
    case rel => exact ⟨1, by decide, rfl, ⟨by simpa [bArr, sumByte] using blk_set B1.out 0 (.int .u8 (sumByte a0 0))⟩, ⟨below_set HB.out G1.out⟩⟩
    case measure => simp [intOf]
   ·go_wp2
    go_roundw
    case rel => exact ⟨2, by decide, rfl, ⟨by simpa [bArr, sumByte] using blk_set B1.out 1 (.int .u8 (sumByte a0 1))⟩, ⟨below_set HB.out G1.out⟩⟩
    case measure => simp [intOf]
   ·go_wp2
    go_roundw
    case rel => exact ⟨3, by decide, rfl, ⟨by simpa [bArr, sumByte] using blk_set B1.out 2 (.int .u8 (sumByte a0 2))⟩, ⟨below_set HB.out G1.out⟩⟩
    case measure => simp [intOf]
   ·go_wp2
    go_roundw
    case rel => exact ⟨4, by decide, rfl, ⟨by simpa [bArr, sumByte] using blk_set B1.out 3 (.int .u8 (sumByte a0 3))⟩, ⟨below_set HB.out G1.out⟩⟩
    case measure => simp [intOf]
  ·obtain rfl : k = 4 := by omega
   have hcs := crc_bytes_string (P := Try.prog) (dst := 9) Try.underlying84 Try.underlying5 Try.underlying9 B1.out
   go_wp2
   go_ret
   exact ⟨rfl, HB.out⟩

/-! ### crc_run: function 109, by hand (crc.run.lean) -/
/-- A step of a register. -/
def cst (r : Int) : Int := if Go.bits .and .u32 r 1 = 1 then Go.bits .xor .u32 (r / 2) 3988292384 else r / 2
def cstn : Nat → Int → Int
 | 0, r => r
 | n + 1, r => cst (cstn n r)
def hv (n : Nat) : Int := cstn 4 n
def hArr (k : Nat) : Array Value := ((List.range 16).map (fun i => Value.int .u32 (if i < k then hv i else 0))).toArray
theorem blk_setCells (g : Nat) (t : TypeId) : ∀ (vs pre post : List Value) (w : World), w.heap[g]? = some (.cells (pre ++ post).toArray t (0, 0)) → vs.length ≤ post.length → (w.setCells g pre.length vs).heap[g]? = some (.cells (pre ++ vs ++ post.drop vs.length).toArray t (0, 0))
 | [], pre, post, w, h, _ => by simpa [World.setCells] using h
 | v :: r, pre, [], w, h, hl => by simp at hl
 | v :: r, pre, p :: post, w, h, hl => by
  have h1 := blk_set h pre.length v
  have e : (pre ++ p :: post).toArray.setIfInBounds pre.length v = ((pre ++ [v]) ++ post).toArray := by
   apply Array.ext'
   simp
  rw [e] at h1
  have ih := blk_setCells g t r (pre ++ [v]) post _ h1 (by simp at hl; omega)
  simpa [World.setCells] using ih
theorem blk_setCells0 {g : Nat} {t : TypeId} {cs vs : Array Value} {w : World} (h : w.heap[g]? = some (.cells cs t (0, 0))) (hl : vs.size = cs.size) : (w.setCells g 0 vs.toList).heap[g]? = some (.cells vs t (0, 0)) := by
 have := blk_setCells g t vs.toList [] cs.toList w (by simpa using h) (by simp [hl])
 rw [List.drop_of_length_le (by simp [hl]), List.append_nil] at this
 simpa using this
theorem blk_there {g n : Nat} {t : TypeId} {cs : Array Value} {w : World} (h : w.heap[g]? = some (.cells cs t (0, 0))) (hn : n = cs.size) : w.there g 0 n := fun j hj => by
 rw [hn] at hj
 rw [Nat.zero_add]
 refine ⟨?_, blk_frozen h j⟩
 rw [blk_cell h j, Array.getElem?_eq_getElem hj]; rfl
theorem below_setCells {w W : World} {g : Nat} (h : Below w.heap.size w W) (hg : w.heap.size ≤ g) : ∀ (vs : List Value) (o : Nat), Below w.heap.size w (W.setCells g o vs) := by
 intro vs
 induction vs generalizing W with
 | nil => intro o; exact h
 | cons v r ih => intro o; exact ih (below_set h hg) (o + 1)
theorem hArr_at (k i : Nat) (h : i < 16) : (hArr k)[i]? = some (.int .u32 (if i < k then hv i else 0)) := by
 unfold hArr
 simp [h]
theorem hArr_set (k : Nat) (h : k < 16) : (hArr k).setIfInBounds k (.int .u32 (cstn 4 k)) = hArr (k + 1) := by
 apply Array.ext'
 unfold hArr
 rw [Array.toList_setIfInBounds]
 apply List.ext_getElem?
 intro i
 by_cases hi : i = k
 ·subst hi
  simp [List.getElem?_set, h, hv]
 ·simp only [List.getElem?_set, List.getElem?_map]
  rw [if_neg (fun e => hi e.symm)]
  by_cases h16 : i < 16
  ·simp [h16]
   by_cases h1 : i < k
   ·simp [h1, show i < k + 1 by omega]
   ·simp [h1, show ¬ i < k + 1 by omega]
  ·simp [h16]
set_option maxHeartbeats 4000000 in
set_option maxRecDepth 100000 in
theorem crc_half (w : World) : Calls Try.prog 117 #[] w fun e w' => e = .returned (.agg (hArr 16)) ∧ Below w.heap.size w w' := by
 have HB := Aside0.mk (Below.refl w.heap.size w)
 go_enter Try.func117, Try.ntmps117
 go_wp2_with (first | ((with_reducible refine gate_dst (N := 0) rfl ?_); refine be_ (N := 0) (cs := hArr 0) (t := 151) (h := ?_); intro g0 hg w1 hbox hb; have B0 := Aside0.mk hbox; have G0 := gw_ HB hg; replace HB := bs_ HB hb; clear hb hbox hg) | ((with_reducible refine gate_dst (N := 1) rfl ?_); refine be_ (N := 1) (cs := hArr 0) (t := 151) (h := ?_); intro g1 hg w2 hbox hb; have B1 := Aside0.mk hbox; have G1 := gw_ HB hg; have NE := ne_ B0 hg; have EN := en_ B0 hg; replace B0 := bb_ B0 hb; replace HB := bs_ HB hb; clear hb hbox hg))
 go_loopw [4] (fun n wr => ∃ k : Nat, k ≤ 16 ∧ n = .int .u32 k ∧ Aside0 (wr.heap[g1]? = some (.cells (hArr k) 151 (0, 0))) ∧ Aside0 (wr.heap[g0]? = some (.cells (hArr 0) 151 (0, 0))) ∧ Aside0 (Below w.heap.size w wr)) (fun n _ => 16 - (intOf n).toNat)
 case atStart => exact ⟨0, by decide, rfl, B1, B0, HB⟩
 case round =>
  clear B1 B0 HB
  obtain ⟨k, hk, rfl, B1, B0, HB⟩ := hrel
  by_cases hlt : k < 16
  ·go_wp2
   go_loop [3, 8] (fun r j => ∃ i : Nat, i ≤ 4 ∧ j = .int .i64 i ∧ r = .int .u32 (cstn i k)) (fun _ j => 4 - (intOf j).toNat)
   case atStart => exact ⟨0, by decide, rfl, rfl⟩
   case round =>
    obtain ⟨i, hi, rfl, rfl⟩ := hrel
    by_cases hi4 : i < 4
    ·obtain ⟨r, hr⟩ : ∃ r : Int, r = cstn i k := ⟨_, rfl⟩
     have hn : cstn (i + 1) k = cst r := by rw [hr]; rfl
     rw [← hr]
     have HN := Aside0.mk hn
     clear hr hn
     by_cases ho : Go.bits .and .u32 r 1 = 1
     ·have b0 : (Go.bits .and .u32 r 1 == 1) = true := beq_iff_eq.mpr ho
      have e : cst r = Go.bits .xor .u32 (r / 2) 3988292384 := if_pos ho
      have E := Aside0.mk e
      clear ho e
      go_wp2
      go_round
      case rel => exact ⟨i + 1, by omega, by go_num, by rw [HN.out, E.out]⟩
      case measure => simp [intOf]; omega
     ·have b0 : (Go.bits .and .u32 r 1 == 1) = false := beq_eq_false_iff_ne.mpr ho
      have e : cst r = r / 2 := if_neg ho
      have E := Aside0.mk e
      clear ho e
      go_wp2
      go_round
      case rel => exact ⟨i + 1, by omega, by go_num, by rw [HN.out, E.out]⟩
      case measure => simp [intOf]; omega
    ·obtain rfl : i = 4 := by omega
     have hc1 := (blk_cell B1.out k).trans (hArr_at k k hlt)
     rw [if_neg (Nat.lt_irrefl _)] at hc1
     have hf1 := blk_frozen B1.out k
     go_wp2
     go_roundw
     case rel => exact ⟨k + 1, by omega, by go_num, ⟨by have h := blk_set B1.out k (.int .u32 (cstn 4 k)); rw [hArr_set k hlt] at h; exact h⟩, ⟨(Below.heap_setCell _ _ _ g0 NE.out).trans B0.out⟩, ⟨below_set HB.out G1.out⟩⟩
     case measure => simp [intOf]; omega
  ·obtain rfl : k = 16 := by omega
   have hu := Try.underlying151
   go_wp2_with (first | ((with_reducible refine gate_dst (N := 23) rfl ?_); refine wpList_load_row rfl 151 (.tmp 1) rfl g1 rfl 151 (hArr 16) (0, 0) _ B1.out hu rfl (by kernel_rfl) ?_) | ((with_reducible refine gate_store (t := 151) (p := 0) (v := .tmp 23) rfl ?_); refine wpList_store_mid rfl 151 (.tmp 0) (.tmp 23) rfl g0 0 (hArr 16) rfl rfl ?ht (by kernel_rfl) (by kernel_rfl) ?_; (case ht => exact blk_there B0.out rfl)))
   refine bodyPost_ret (results_cell_row rfl _ _ g0 151 (hArr 16) (0, 0) _ rfl (blk_setCells0 B0.out rfl) hu rfl (by kernel_rfl)) rfl ?_
   exact ⟨rfl, below_setCells HB.out G0.out _ _⟩
def crcB (r b : Int) : Int :=
 let r1 := Go.bits .xor .u32 r b
 let r2 := Go.bits .xor .u32 (r1 / 16) (hv (Go.bits .and .u32 r1 15).toNat)
 Go.bits .xor .u32 (r2 / 16) (hv (Go.bits .and .u32 r2 15).toNat)
def crc_run.f (a0 : Int) (a1 : ByteArray) : Option Int := if a1.size ≤ 1152921504606846976 then some ((bytesOf a1).foldl crcB a0) else none
theorem and15 (x : Int) : 0 ≤ Go.bits .and .u32 x 15 ∧ Go.bits .and .u32 x 15 < 16 := by
 have h : (BitVec.ofInt 32 x &&& BitVec.ofInt 32 15).toNat ≤ 15 := by
  rw [BitVec.toNat_and]
  exact Nat.and_le_right
 have e : Go.bits .and .u32 x 15 = IntKind.u32.wrap ((BitVec.ofInt 32 x &&& BitVec.ofInt 32 15).toNat) := rfl
 rw [e]
 generalize (BitVec.ofInt 32 x &&& BitVec.ofInt 32 15).toNat = n at h
 rw [show IntKind.u32.wrap (n : Int) = (n : Int) % 4294967296 from rfl]
 omega
theorem fold_snoc (l : List Int) (i : Nat) (h : i < l.length) (a : Int) : (l.take (i + 1)).foldl crcB a = crcB ((l.take i).foldl crcB a) (l.getD i 0) := by
 rw [List.take_succ_eq_append_getElem h, List.foldl_append, List.getD_eq_getElem?_getD, List.getElem?_eq_getElem h]; rfl
set_option maxHeartbeats 4000000 in
set_option maxRecDepth 100000 in
theorem crc_run.calls (a0 : Int) (a1 : ByteArray) (r : Int) (w : World) (h : crc_run.f a0 a1 = some r) :
  Calls Try.prog 109 #[.int .u32 a0, .string a1] w fun e w' => e = .returned (.int .u32 r) ∧ Below w.heap.size w w' := by
 have HB := Aside0.mk (Below.refl w.heap.size w)
 have hh : a1.size ≤ 1152921504606846976 ∧ (bytesOf a1).foldl crcB a0 = r := by
  unfold crc_run.f at h
  by_cases g : a1.size ≤ 1152921504606846976
  ·rw [if_pos g] at h; exact ⟨g, Option.some.inj h⟩
  ·rw [if_neg g] at h; exact absurd h (by simp)
 clear h
 obtain ⟨hsz, rfl⟩ := hh
 go_enter Try.func109, Try.ntmps109
 go_wp2_with (first | (go_at_call 117; (with_reducible refine (crc_half _).mono ?_); rintro e w1 ⟨rfl, hb⟩; replace HB := bs_ HB hb; clear hb) | ((with_reducible refine gate_dst (N := 5) rfl ?_); refine be_ (N := 5) (cs := hArr 0) (t := 151) (h := ?_); intro g1 hg w2 hbox hb; have B1 := Aside0.mk hbox; have G1 := gw_ HB hg; replace HB := bs_ HB hb; clear hb hbox hg) | ((with_reducible refine gate_store (t := 151) (p := 5) (v := .tmp 7) rfl ?_); refine wpList_store_mid rfl 151 (.tmp 5) (.tmp 7) rfl g1 0 (hArr 16) rfl rfl ?ht (by kernel_rfl) (by kernel_rfl) ?_; (case ht => exact blk_there B1.out rfl)))
 have B2 := Aside0.mk (blk_setCells0 (vs := hArr 16) B1.out rfl)
 have HB2 := Aside0.mk (below_setCells HB.out G1.out (hArr 16).toList 0)
 clear B1 HB
 generalize w2.setCells g1 0 (hArr 16).toList = w3 at B2 HB2 ⊢
 go_loop [0, 10] (fun v i => ∃ k : Nat, k ≤ a1.size ∧ i = .int .i64 k ∧ v = .int .u32 (((bytesOf a1).take k).foldl crcB a0)) (fun _ i => a1.size - (intOf i).toNat)
 case atStart => exact ⟨0, Nat.zero_le _, rfl, rfl⟩
 case round =>
  obtain ⟨k, hk, rfl, rfl⟩ := hrel
  by_cases hlt : k < a1.size
  ·obtain ⟨r, hr⟩ : ∃ r : Int, r = ((bytesOf a1).take k).foldl crcB a0 := ⟨_, rfl⟩
   have hn : ((bytesOf a1).take (k + 1)).foldl crcB a0 = crcB r (bt a1 k) := by rw [fold_snoc _ _ (by rw [bytesOf_length]; exact hlt), hr, ← rd_bytesOf]; rfl
   rw [← hr]
   have HN := Aside0.mk hn
   clear hr hn
   have hb := bt_range a1 k
   obtain ⟨b, hbe⟩ : ∃ b : Int, b = bt a1 k := ⟨_, rfl⟩
   have hba : ((a1[k]'hlt).toNat : Int) = b := by rw [hbe]; exact bt_at a1 k (by simpa using hlt)
   rw [← hbe] at HN hb
   have hbm : b % 4294967296 = b := by omega
   have p1 := and15 (Go.bits .xor .u32 r b)
   obtain ⟨r1, hr1⟩ : ∃ r1 : Int, r1 = Go.bits .xor .u32 r b := ⟨_, rfl⟩
   rw [← hr1] at p1
   obtain ⟨r2, hr2⟩ : ∃ r2 : Int, r2 = Go.bits .xor .u32 (r1 / 16) (hv (Go.bits .and .u32 r1 15).toNat) := ⟨_, rfl⟩
   have p2 := and15 r2
   have c1 := (blk_cell B2.out (Go.bits .and .u32 r1 15).toNat).trans (hArr_at 16 _ (by omega))
   rw [if_pos (by omega)] at c1
   have c2 := (blk_cell B2.out (Go.bits .and .u32 r2 15).toNat).trans (hArr_at 16 _ (by omega))
   rw [if_pos (by omega)] at c2
   have R1 := Aside0.mk hr1
   have R2 := Aside0.mk hr2
   have e1 := hr1.symm
   have e2 := hr2.symm
   have NF := Aside0.mk (show crcB r b = Go.bits .xor .u32 (r2 / 16) (hv (Go.bits .and .u32 r2 15).toNat) by rw [hr2, hr1]; rfl)
   clear hr1 hr2 hbe
   go_wp2
   go_round
   case rel => exact ⟨k + 1, by omega, by go_num, by rw [HN.out, NF.out]⟩
   case measure => simp [intOf]; omega
  ·obtain rfl : k = a1.size := by omega
   go_wp2
   go_ret
   exact ⟨by rw [List.take_of_length_le (by rw [bytesOf_length]; omega)]; rfl, HB2.out⟩

/-! ### crc_Sum: function 83 -/
def crc_Sum.l0 : Nat → Int → List ByteArray → Int → Int → Option (Int)
 | 0, _, _, _, _ => none
 | k + 1, x3, x6, x7, x8 => if x8 < x7 then (if 0 ≤ x8 then (if x8 < (x6.length : Int) then ((crc_run.f x3 (rdOf ByteArray.empty x6 x8)).bind fun t112 => (crc_Sum.l0 k t112 x6 x7 (wrap64 (x8 + 1)))) else (none)) else (none)) else (some (wrap64 (Go.bits .xor .u32 x3 4294967295)))
def crc_Sum.f (k : Nat) (l0 : List ByteArray) : Option (Int) := crc_Sum.l0 k 4294967295 l0 (l0.length : Int) 0
theorem crc_Sum.mono_l : ∀ k, (∀ y0 y1 y2 y3, LeO (crc_Sum.l0 k y0 y1 y2 y3) (crc_Sum.l0 (k + 1) y0 y1 y2 y3))
 | 0 => fun _ _ _ _ r h => by simp [crc_Sum.l0] at h
 | k + 1 => by
  have ih0 := crc_Sum.mono_l k
  ·intro y0 y1 y2 y3
   unfold crc_Sum.l0
   repeat' first
   | (with_reducible exact ih0 _ _ _ _)
   | (with_reducible exact LeO.refl _)
   | (with_reducible exact LeO.none _)
   | (with_reducible refine LeO.ite ?_ ?_)
   | (with_reducible refine LeO.bind ?_ (fun _ => ?_))
   | exact ih0 _ _ _ _
   | exact LeO.none _
   | refine LeO.ite ?_ ?_
   | refine LeO.bind ?_ (fun _ => ?_)
theorem crc_Sum.mono : ∀ a0 k, LeO (crc_Sum.f k a0) (crc_Sum.f (k + 1) a0) := by
 intro a0 k
 have ih0 := crc_Sum.mono_l k
 unfold crc_Sum.f
 repeat' first
   | (with_reducible exact ih0 _ _ _ _)
   | (with_reducible exact LeO.refl _)
   | (with_reducible exact LeO.none _)
   | (with_reducible refine LeO.ite ?_ ?_)
   | (with_reducible refine LeO.bind ?_ (fun _ => ?_))
   | exact ih0 _ _ _ _
   | exact LeO.none _
   | refine LeO.ite ?_ ?_
   | refine LeO.bind ?_ (fun _ => ?_)
set_option maxHeartbeats 8000000 in
set_option maxRecDepth 100000 in
theorem crc_Sum.calls (k : Nat) (A0 : Option Addr) (c0 : Nat) (l0 : List ByteArray) (r : Int) (w : World) (hr0 : Kd.C Kd.string w A0 l0.length l0) (hc0 : l0.length ≤ c0) (h : crc_Sum.f k l0 = some r) :
  Calls Try.prog 83 #[.slice A0 l0.length c0] w fun e w' => e = .returned (.int .i64 r) ∧ Below w.heap.size w w' := by
 have HR0 := Aside0.mk hr0
 have HC0 := Aside0.mk hc0
 clear hr0 hc0
 have HB := Aside0.mk (Below.refl w.heap.size w)
 have H : (crc_Sum.l0 k 4294967295 l0 (l0.length : Int) 0) = some r := h
 clear h
 have H' := Aside0.mk H
 clear H
 go_enter Try.func83, Try.ntmps83
 go_wp2
 go_loopg [3, 8] k (fun kq v3 v8 w' => ∃ (x3_1 : Int) (x8_1 : Int), v3 = .int .u32 x3_1 ∧ v8 = .int .i64 x8_1 ∧ Aside0 (crc_Sum.l0 kq x3_1 l0 (l0.length : Int) x8_1 = some r) ∧ Aside0 (kq ≤ k) ∧ Aside0 (Below w.heap.size w w'))
 case atStart => exact ⟨(4294967295), (0), es_, es_, H', ⟨Nat.le_refl _⟩, ⟨hb_ HB⟩⟩
 case round =>
  clear H'
  obtain ⟨x3_1, x8_1, rfl, rfl, HA, HK1, HB⟩ := hrel
  cases gk with
  | zero => exact absurd HA.out (by simp [crc_Sum.l0])
  | succ k1 =>
   have H := HA.out
   clear HA
   simp only [crc_Sum.l0] at H
   by_cases c2 : x8_1 < (l0.length : Int)
   ·rw [if_pos c2] at H
    have c2b0 : decide (x8_1 < (l0.length : Int)) = true := decide_eq_true c2
    clear c2
    by_cases c3 : 0 ≤ x8_1
    ·rw [if_pos c3] at H
     have c3b0 : decide (0 ≤ x8_1) = true := decide_eq_true c3
     clear c3
     by_cases c4 : x8_1 < (l0.length : Int)
     ·rw [if_pos c4] at H
      have c4b0 : decide (x8_1 < (l0.length : Int)) = true := decide_eq_true c4
      clear c4
      replace H := Option.bind_eq_some_iff.mp H
      obtain ⟨t112, A50, H⟩ := H
      replace H : (crc_Sum.l0 k1 t112 l0 (l0.length : Int) (wrap64 (x8_1 + 1))) = some r := H
      have A5 := Aside0.mk A50
      clear A50
      have H' := Aside0.mk H
      clear H
      have p111 : 0 ≤ (x8_1 : Int) := of_decide_eq_true as_
      have q111 : x8_1 < (l0.length : Int) := of_decide_eq_true as_
      obtain ⟨ad111, e111, hx111_0⟩ := Kd.at_string HR0.out x8_1 p111 q111
      cases e111
      replace hx111_0 := cb_ HB hx111_0
      replace p111 := eq_true p111
      replace q111 := eq_true q111
      go_wp2_with (first | ((with_reducible refine gate_callee (f := 109) rfl ?_); refine ge_ (some 14) rfl rfl Try.func109 (by kernel_rfl) rfl #[.int .u32 x3_1, .string (rdOf ByteArray.empty l0 x8_1)] rfl (h := ?_); (with_reducible refine (crc_run.calls x3_1 (rdOf ByteArray.empty l0 x8_1) t112 _ A5.out).mono ?_); rintro e w6 ⟨rfl, hb⟩; refine ⟨_, rfl, ?_⟩; replace HB := bs_ HB hb; (try clear hb); (try clear hb2); (try clear hk); (try clear hi)))
      go_roundg k1
      case measure => have := HK1.out; omega
      case rel => exact ⟨(t112), (wrap64 (x8_1 + 1)), es_, es_, H', ⟨by have := HK1.out; omega⟩, ⟨hb_ HB⟩⟩
     ·rw [if_neg c4] at H
      exact absurd H (by simp)
    ·rw [if_neg c3] at H
     exact absurd H (by simp)
   ·rw [if_neg c2] at H
    have c2b0 : decide (x8_1 < (l0.length : Int)) = false := decide_eq_false c2
    clear c2
    obtain rfl := Option.some.inj H
    go_wp2
    go_ret
    exact ⟨er_, hb_ HB⟩

end Go.Proofs.Ytealbonfaebikaa.PRecordReads
