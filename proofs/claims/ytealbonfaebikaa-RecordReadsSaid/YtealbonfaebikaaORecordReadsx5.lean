/- Of the law calamus/calamuslaw33.RecordReads: each function as a plain Lean function, with a proof that the call comes to it; the row. By wip/tpl/own_print.py. Conditions: none but the row's own. -/
import Derived.Test.YtealbonfaebikaaORecordReadsx0
import Derived.Test.YtealbonfaebikaaORecordReadsx2
import Derived.Test.YtealbonfaebikaaORecordReadsx3
import Derived.Test.YtealbonfaebikaaORecordReadsx4
namespace Go.Proofs.Ytealbonfaebikaa.PRecordReads
open Go.RowKit Go.Proofs.YtealbonfaebikaaW.PrintWords Go.Proofs.YtealbonfaebikaaW.PrintLast Go.Proofs.YtealbonfaebikaaW.PrintMore
attribute [local go_sem] max2_int min2_int max_two min_two max_three min_three max_four min_four   -- for this text's walks alone
set_option linter.unusedVariables false
set_option linter.unusedSimpArgs false

/-! ### record_within: function 60 -/
def record_within.f (a0 : ByteArray) : Option (Int × Int × Int × ByteArray × Bool) := if 0 < (a0.size : Int) then (if 1 ≤ (a0.size : Int) then ((code_NewReader.f (a0.extract 1 a0.size)).bind fun bt147 => ((code_Reader_Num.f bt147.1 bt147.2).bind fun bt150 => ((code_Reader_Num.f bt150.2.1 bt150.2.2).bind fun bt153 => ((code_Reader_Left.f bt153.2.1 bt153.2.2).bind fun bt156 => (if 0 ≤ (wrap64 ((a0.size : Int) - bt156.1)) then (if (wrap64 ((a0.size : Int) - bt156.1)) ≤ (a0.size : Int) then ((code_Reader_Err.f bt156.2.1 bt156.2.2).bind fun bt159 => (if bt159.1 = 0 then ((record_Right.f (wrap64 (bt a0 0)) bt150.1 bt153.1 (a0.extract ((wrap64 ((a0.size : Int) - bt156.1)) : Int).toNat a0.size)).bind fun t162 => (some (wrap64 (bt a0 0), bt150.1, bt153.1, a0.extract ((wrap64 ((a0.size : Int) - bt156.1)) : Int).toNat a0.size, t162))) else (some (wrap64 (bt a0 0), bt150.1, bt153.1, a0.extract ((wrap64 ((a0.size : Int) - bt156.1)) : Int).toNat a0.size, false)))) else (none)) else (none)))))) else (none)) else (none)
def record_within.T5 : Bool × List (List Nat × List Nat) := (true, [([], []), ([], []), ([1], [1]), ([2], [2]), ([3, 2], [3]), ([4], [4]), ([5, 4, 4], [4, 5]), ([4, 6], [4, 6]), ([0, 6, 0], [0]), ([7, 8, 0, 1, 2, 3, 4, 5, 6, 7, 8], [7])])
def record_within.B5 : List Nat := [0, 0, 2, 6, 14, 30, 62, 126, 127, 511]
theorem record_within.tab5 : rtab .any (opsOf Try.f60 5) = record_within.T5 := by kernel_rfl
theorem record_within.bits5 : waitsOk record_within.T5.2 record_within.B5 = true := by kernel_rfl
set_option maxHeartbeats 8000000 in
set_option maxRecDepth 100000 in
theorem record_within.calls (a0 : ByteArray) (r1 : Int) (r2 : Int) (r3 : Int) (r4 : ByteArray) (r5 : Bool) (w : World) (h : record_within.f a0 = some (r1, r2, r3, r4, r5)) :
  Calls Try.prog 60 #[.string a0] w fun e w' => e = .returned (.tuple #[.agg #[.int .i64 r1, .int .i64 r2, .int .i64 r3, .string r4], .bool r5]) ∧ Below w.heap.size w w' := by
 have hu24 := Try.underlying24
 have HB := Aside0.mk (Below.refl w.heap.size w)
 have H : (if 0 < (a0.size : Int) then (if 1 ≤ (a0.size : Int) then ((code_NewReader.f (a0.extract 1 a0.size)).bind fun bt147 => ((code_Reader_Num.f bt147.1 bt147.2).bind fun bt150 => ((code_Reader_Num.f bt150.2.1 bt150.2.2).bind fun bt153 => ((code_Reader_Left.f bt153.2.1 bt153.2.2).bind fun bt156 => (if 0 ≤ (wrap64 ((a0.size : Int) - bt156.1)) then (if (wrap64 ((a0.size : Int) - bt156.1)) ≤ (a0.size : Int) then ((code_Reader_Err.f bt156.2.1 bt156.2.2).bind fun bt159 => (if bt159.1 = 0 then ((record_Right.f (wrap64 (bt a0 0)) bt150.1 bt153.1 (a0.extract ((wrap64 ((a0.size : Int) - bt156.1)) : Int).toNat a0.size)).bind fun t162 => (some (wrap64 (bt a0 0), bt150.1, bt153.1, a0.extract ((wrap64 ((a0.size : Int) - bt156.1)) : Int).toNat a0.size, t162))) else (some (wrap64 (bt a0 0), bt150.1, bt153.1, a0.extract ((wrap64 ((a0.size : Int) - bt156.1)) : Int).toNat a0.size, false)))) else (none)) else (none)))))) else (none)) else (none)) = some (r1, r2, r3, r4, r5) := h
 clear h
 by_cases c2 : 0 < (a0.size : Int)
 ·rw [if_pos c2] at H
  have c2b0 : decide (0 < (a0.size : Int)) = true := decide_eq_true c2
  have c2b1 : decide (0 < a0.size) = true := decide_eq_true (by omega)
  clear c2
  by_cases c4 : 1 ≤ (a0.size : Int)
  ·rw [if_pos c4] at H
   have c4b0 := eq_true c4
   try (have c4b0x := c4b0; simp only [ByteArray.size_extract, Nat.min_self] at c4b0x)
   have c4b1 : decide (1 ≤ (a0.size : Int)) = true := decide_eq_true c4
   clear c4
   replace H := Option.bind_eq_some_iff.mp H
   obtain ⟨⟨t147, t148⟩, A50, H⟩ := H
   replace H : ((code_Reader_Num.f t147 t148).bind fun bt150 => ((code_Reader_Num.f bt150.2.1 bt150.2.2).bind fun bt153 => ((code_Reader_Left.f bt153.2.1 bt153.2.2).bind fun bt156 => (if 0 ≤ (wrap64 ((a0.size : Int) - bt156.1)) then (if (wrap64 ((a0.size : Int) - bt156.1)) ≤ (a0.size : Int) then ((code_Reader_Err.f bt156.2.1 bt156.2.2).bind fun bt159 => (if bt159.1 = 0 then ((record_Right.f (wrap64 (bt a0 0)) bt150.1 bt153.1 (a0.extract ((wrap64 ((a0.size : Int) - bt156.1)) : Int).toNat a0.size)).bind fun t162 => (some (wrap64 (bt a0 0), bt150.1, bt153.1, a0.extract ((wrap64 ((a0.size : Int) - bt156.1)) : Int).toNat a0.size, t162))) else (some (wrap64 (bt a0 0), bt150.1, bt153.1, a0.extract ((wrap64 ((a0.size : Int) - bt156.1)) : Int).toNat a0.size, false)))) else (none)) else (none))))) = some (r1, r2, r3, r4, r5) := H
   have A5 := Aside0.mk A50
   clear A50
   replace H := Option.bind_eq_some_iff.mp H
   obtain ⟨⟨t150, t151, t152⟩, A60, H⟩ := H
   replace H : ((code_Reader_Num.f t151 t152).bind fun bt153 => ((code_Reader_Left.f bt153.2.1 bt153.2.2).bind fun bt156 => (if 0 ≤ (wrap64 ((a0.size : Int) - bt156.1)) then (if (wrap64 ((a0.size : Int) - bt156.1)) ≤ (a0.size : Int) then ((code_Reader_Err.f bt156.2.1 bt156.2.2).bind fun bt159 => (if bt159.1 = 0 then ((record_Right.f (wrap64 (bt a0 0)) t150 bt153.1 (a0.extract ((wrap64 ((a0.size : Int) - bt156.1)) : Int).toNat a0.size)).bind fun t162 => (some (wrap64 (bt a0 0), t150, bt153.1, a0.extract ((wrap64 ((a0.size : Int) - bt156.1)) : Int).toNat a0.size, t162))) else (some (wrap64 (bt a0 0), t150, bt153.1, a0.extract ((wrap64 ((a0.size : Int) - bt156.1)) : Int).toNat a0.size, false)))) else (none)) else (none)))) = some (r1, r2, r3, r4, r5) := H
   have A6 := Aside0.mk A60
   clear A60
   replace H := Option.bind_eq_some_iff.mp H
   obtain ⟨⟨t153, t154, t155⟩, A70, H⟩ := H
   replace H : ((code_Reader_Left.f t154 t155).bind fun bt156 => (if 0 ≤ (wrap64 ((a0.size : Int) - bt156.1)) then (if (wrap64 ((a0.size : Int) - bt156.1)) ≤ (a0.size : Int) then ((code_Reader_Err.f bt156.2.1 bt156.2.2).bind fun bt159 => (if bt159.1 = 0 then ((record_Right.f (wrap64 (bt a0 0)) t150 t153 (a0.extract ((wrap64 ((a0.size : Int) - bt156.1)) : Int).toNat a0.size)).bind fun t162 => (some (wrap64 (bt a0 0), t150, t153, a0.extract ((wrap64 ((a0.size : Int) - bt156.1)) : Int).toNat a0.size, t162))) else (some (wrap64 (bt a0 0), t150, t153, a0.extract ((wrap64 ((a0.size : Int) - bt156.1)) : Int).toNat a0.size, false)))) else (none)) else (none))) = some (r1, r2, r3, r4, r5) := H
   have A7 := Aside0.mk A70
   clear A70
   replace H := Option.bind_eq_some_iff.mp H
   obtain ⟨⟨t156, t157, t158⟩, A80, H⟩ := H
   replace H : (if 0 ≤ (wrap64 ((a0.size : Int) - t156)) then (if (wrap64 ((a0.size : Int) - t156)) ≤ (a0.size : Int) then ((code_Reader_Err.f t157 t158).bind fun bt159 => (if bt159.1 = 0 then ((record_Right.f (wrap64 (bt a0 0)) t150 t153 (a0.extract ((wrap64 ((a0.size : Int) - t156)) : Int).toNat a0.size)).bind fun t162 => (some (wrap64 (bt a0 0), t150, t153, a0.extract ((wrap64 ((a0.size : Int) - t156)) : Int).toNat a0.size, t162))) else (some (wrap64 (bt a0 0), t150, t153, a0.extract ((wrap64 ((a0.size : Int) - t156)) : Int).toNat a0.size, false)))) else (none)) else (none)) = some (r1, r2, r3, r4, r5) := H
   have A8 := Aside0.mk A80
   clear A80
   obtain ⟨ji9, hji9⟩ : ∃ j_ : Int, (wrap64 ((a0.size : Int) - t156)) = j_ := ⟨_, rfl⟩
   replace H : (if 0 ≤ (ji9) then (if (ji9) ≤ (a0.size : Int) then ((code_Reader_Err.f t157 t158).bind fun bt159 => (if bt159.1 = 0 then ((record_Right.f (wrap64 (bt a0 0)) t150 t153 (a0.extract ((ji9) : Int).toNat a0.size)).bind fun t162 => (some (wrap64 (bt a0 0), t150, t153, a0.extract ((ji9) : Int).toNat a0.size, t162))) else (some (wrap64 (bt a0 0), t150, t153, a0.extract ((ji9) : Int).toNat a0.size, false)))) else (none)) else (none)) = some (r1, r2, r3, r4, r5) := by first | (rw [hji9] at H; exact H) | (simp only [hji9] at H ⊢; exact H)
   (try rw [hji9] at A5)
   (try rw [hji9] at A6)
   (try rw [hji9] at A7)
   (try rw [hji9] at A8)
   have hji9w : (IntKind.i64.wrap ((a0.size : Int) - t156)) = ji9 := (i64_w _).trans hji9
   try (have hji9x := hji9; simp only [ByteArray.size_extract, Nat.min_self] at hji9x)
   by_cases c10 : 0 ≤ (ji9)
   ·rw [if_pos c10] at H
    have c10b0 := eq_true c10
    try (have c10b0x := c10b0; simp only [ByteArray.size_extract, Nat.min_self] at c10b0x)
    have c10b1 : decide (0 ≤ (ji9)) = true := decide_eq_true c10
    clear c10
    by_cases c11 : (ji9) ≤ (a0.size : Int)
    ·rw [if_pos c11] at H
     have c11b0 := eq_true c11
     try (have c11b0x := c11b0; simp only [ByteArray.size_extract, Nat.min_self] at c11b0x)
     have c11b1 : decide ((ji9) ≤ (a0.size : Int)) = true := decide_eq_true c11
     clear c11
     replace H := Option.bind_eq_some_iff.mp H
     obtain ⟨⟨t159, t160, t161⟩, A120, H⟩ := H
     replace H : (if t159 = 0 then ((record_Right.f (wrap64 (bt a0 0)) t150 t153 (a0.extract ((ji9) : Int).toNat a0.size)).bind fun t162 => (some (wrap64 (bt a0 0), t150, t153, a0.extract ((ji9) : Int).toNat a0.size, t162))) else (some (wrap64 (bt a0 0), t150, t153, a0.extract ((ji9) : Int).toNat a0.size, false))) = some (r1, r2, r3, r4, r5) := H
     have A12 := Aside0.mk A120
     clear A120
     by_cases c13 : t159 = 0
     ·rw [if_pos c13] at H
      have c13b0 : (t159 == 0) = true := beq_iff_eq.mpr c13
      have c13b1 : (t159 != 0) = false := bne_eq_false_iff_eq.mpr c13
      clear c13
      replace H := Option.bind_eq_some_iff.mp H
      obtain ⟨t162, A140, H⟩ := H
      replace H : (some (wrap64 (bt a0 0), t150, t153, a0.extract ((ji9) : Int).toNat a0.size, t162)) = some (r1, r2, r3, r4, r5) := H
      have A14 := Aside0.mk A140
      clear A140
      simp only [Option.some.injEq, Prod.mk.injEq] at H
      obtain ⟨rfl, rfl, rfl, rfl, rfl⟩ := H
      go_enter Try.func60, Try.ntmps60
      try go_wp2_with (first | ((with_reducible refine gate_dst (N := 2) rfl ?_); refine be_ (N := 2) (cs := #[.int .i64 0, .int .i64 0, .int .i64 0, .string (⟨#[]⟩ : ByteArray)]) (t := 24) (h := ?_); intro gb145 hg w15 hbox hb; have BK145 := Aside0.mk (hbox); have GW145 := gw_ HB hg; have GE145 := gw_ HB hg; replace HB := bs_ HB hb; clear hb hbox hg; have p3 : 0 ≤ (0 : Int) := (by omega); have q3 : 0 < a0.size := (by have : (0 : Int) < (a0.size : Int) := of_decide_eq_true as_; omega); have hx3 : ∀ h : 0 < a0.size, ((a0[0]'h).toNat : Int) = bt a0 0 := bt_at a0 0; clear p3; have qi3 : (0 < (a0.size : Int)) = True := eq_true (of_decide_eq_true as_); replace q3 := eq_true q3) | ((with_reducible refine gate_dst (N := 4) rfl ?_); refine be_ (N := 4) (cs := #[.int .i64 0, .int .i64 0, .int .i64 0, .string (⟨#[]⟩ : ByteArray)]) (t := 24) (h := ?_); intro gb146 hg w16 hbox hb; have BK146 := Aside0.mk (hbox); have GW146 := gw_ HB hg; have GE146 := gw_ HB hg; have NB145_146 := ne_ BK145 hg; have NB146_145 := en_ BK145 hg; replace BK145 := bb_ BK145 hb; replace HB := bs_ HB hb; clear hb hbox hg; have hnb17 := NB146_145.out; have hnc17 := NB145_146.out; obtain ⟨hcz18_0, hcz18_1, hcz18_2, hcz18_3, hfz18_0, hfz18_1, hfz18_2, hfz18_3⟩ := bc4_ BK146) | ((with_reducible refine gate_callee (f := 31) rfl ?_); refine ge_ (some 12) rfl rfl Try.func31 (by kernel_rfl) rfl #[.string (a0.extract 1 a0.size)] rfl (h := ?_); (with_reducible refine (code_NewReader.calls (a0.extract 1 a0.size) t147 t148 w _ ?side1 A5.out).mono ?_); (case side1 => repeat (first | (with_reducible first | exact HB.out | apply below_alloc | apply pw_below_drewN | apply below_drew1 | refine below_set ?_ GE145.out | refine below_set ?_ GE146.out) | exact HB.out)); rintro e w19 ⟨g149, rfl, hi, hb, hb2⟩; refine ⟨_, rfl, ?_⟩; have HI149 := Aside0.mk (hi); have NB149_145 := Aside0.mk (IsS91.ne_blk hi (blk_below (g := gb145) (o := .cells #[.int .i64 0, .int .i64 0, .int .i64 0, .string (⟨#[]⟩ : ByteArray)] 24 (0, 0)) (bp_ BK145.out) hb2) (by decide)); have NB145_149 := Aside0.mk (Ne.symm (IsS91.ne_blk hi (blk_below (g := gb145) (o := .cells #[.int .i64 0, .int .i64 0, .int .i64 0, .string (⟨#[]⟩ : ByteArray)] 24 (0, 0)) (bp_ BK145.out) hb2) (by decide))); have NB149_146 := Aside0.mk (IsS91.ne_blk hi (blk_below (g := gb146) (o := .cells #[.int .i64 (wrap64 (bt a0 0)), .int .i64 0, .int .i64 0, .string (⟨#[]⟩ : ByteArray)] 24 (0, 0)) (bp_ BK146.out) hb2) (by decide)); have NB146_149 := Aside0.mk (Ne.symm (IsS91.ne_blk hi (blk_below (g := gb146) (o := .cells #[.int .i64 (wrap64 (bt a0 0)), .int .i64 0, .int .i64 0, .string (⟨#[]⟩ : ByteArray)] 24 (0, 0)) (bp_ BK146.out) hb2) (by decide))); replace BK145 := Aside0.mk (blk_below (g := gb145) (o := .cells #[.int .i64 0, .int .i64 0, .int .i64 0, .string (⟨#[]⟩ : ByteArray)] 24 (0, 0)) (bp_ BK145.out) hb2); replace BK146 := Aside0.mk (blk_below (g := gb146) (o := .cells #[.int .i64 (wrap64 (bt a0 0)), .int .i64 0, .int .i64 0, .string (⟨#[]⟩ : ByteArray)] 24 (0, 0)) (bp_ BK146.out) hb2); replace HB := Aside0.mk (hb); (try clear hb); (try clear hb2); (try clear hk); (try clear hi)) | ((with_reducible refine gate_callee (f := 54) rfl ?_); refine ge_ (some 14) rfl rfl Try.func54 (by kernel_rfl) rfl #[.pointer (some ⟨g149, 0, none⟩)] rfl (h := ?_); (with_reducible refine (code_Reader_Num.calls g149 t147 t148 t150 t151 t152 w _ ?side1 ?side2 A6.out).mono ?_); (case side1 => repeat (first | (with_reducible first | exact HI149.out | apply IsS91.alloc | apply IsS91.drewN | apply IsS91.drew | apply IsS91.set_0 | apply IsS91.set_1 | refine IsS91.far ?_ NB149_145.out _ | refine IsS91.far ?_ NB149_146.out _) | exact HI149.out)); (case side2 => repeat (first | (with_reducible first | exact HB.out | apply below_alloc | apply pw_below_drewN | apply below_drew1 | refine below_set ?_ (IsS91.ge HI149.out) | refine below_set ?_ GE145.out | refine below_set ?_ GE146.out) | exact HB.out)); rintro e w20 ⟨rfl, hi, hb, hk⟩; refine ⟨_, rfl, ?_⟩; replace BK145 := Aside0.mk (KeepBut.blk hk (g' := gb145) (o := .cells #[.int .i64 0, .int .i64 0, .int .i64 0, .string (⟨#[]⟩ : ByteArray)] 24 (0, 0)) (bw_ BK145.out) NB145_149.out (by simp)); replace BK146 := Aside0.mk (KeepBut.blk hk (g' := gb146) (o := .cells #[.int .i64 (wrap64 (bt a0 0)), .int .i64 0, .int .i64 0, .string (⟨#[]⟩ : ByteArray)] 24 (0, 0)) (bw_ BK146.out) NB146_149.out (by simp)); replace HB := Aside0.mk (hb); replace HI149 := Aside0.mk (hi); (try clear hb); (try clear hb2); (try clear hk); (try clear hi)) | ((with_reducible refine gate_callee (f := 54) rfl ?_); refine ge_ (some 16) rfl rfl Try.func54 (by kernel_rfl) rfl #[.pointer (some ⟨g149, 0, none⟩)] rfl (h := ?_); (with_reducible refine (code_Reader_Num.calls g149 t151 t152 t153 t154 t155 w _ ?side1 ?side2 A7.out).mono ?_); (case side1 => repeat (first | (with_reducible first | exact HI149.out | apply IsS91.alloc | apply IsS91.drewN | apply IsS91.drew | apply IsS91.set_0 | apply IsS91.set_1 | refine IsS91.far ?_ NB149_145.out _ | refine IsS91.far ?_ NB149_146.out _) | exact HI149.out)); (case side2 => repeat (first | (with_reducible first | exact HB.out | apply below_alloc | apply pw_below_drewN | apply below_drew1 | refine below_set ?_ (IsS91.ge HI149.out) | refine below_set ?_ GE145.out | refine below_set ?_ GE146.out) | exact HB.out)); rintro e w21 ⟨rfl, hi, hb, hk⟩; refine ⟨_, rfl, ?_⟩; replace BK145 := Aside0.mk (KeepBut.blk hk (g' := gb145) (o := .cells #[.int .i64 0, .int .i64 0, .int .i64 0, .string (⟨#[]⟩ : ByteArray)] 24 (0, 0)) (bw_ BK145.out) NB145_149.out (by simp)); replace BK146 := Aside0.mk (KeepBut.blk hk (g' := gb146) (o := .cells #[.int .i64 (wrap64 (bt a0 0)), .int .i64 0, .int .i64 0, .string (⟨#[]⟩ : ByteArray)] 24 (0, 0)) (bw_ BK146.out) NB146_149.out (by simp)); replace HB := Aside0.mk (hb); replace HI149 := Aside0.mk (hi); (try clear hb); (try clear hb2); (try clear hk); (try clear hi); have hnb22 := NB146_149.out; have hnc22 := NB149_146.out; obtain ⟨hcz23_0, hcz23_1, hcz23_2, hcz23_3, hfz23_0, hfz23_1, hfz23_2, hfz23_3⟩ := bc4_ BK146) | ((with_reducible refine gate_callee (f := 35) rfl ?_); refine ge_ (some 23) rfl rfl Try.func35 (by kernel_rfl) rfl #[.pointer (some ⟨g149, 0, none⟩)] rfl (h := ?_); (with_reducible refine (code_Reader_Left.calls g149 t154 t155 t156 t157 t158 w _ ?side1 ?side2 A8.out).mono ?_); (case side1 => repeat (first | (with_reducible first | exact HI149.out | apply IsS91.alloc | apply IsS91.drewN | apply IsS91.drew | apply IsS91.set_0 | apply IsS91.set_1 | refine IsS91.far ?_ NB149_145.out _ | refine IsS91.far ?_ NB149_146.out _) | exact HI149.out)); (case side2 => repeat (first | (with_reducible first | exact HB.out | apply below_alloc | apply pw_below_drewN | apply below_drew1 | refine below_set ?_ (IsS91.ge HI149.out) | refine below_set ?_ GE145.out | refine below_set ?_ GE146.out) | exact HB.out)); rintro e w24 ⟨rfl, hi, hb, hk⟩; refine ⟨_, rfl, ?_⟩; replace BK145 := Aside0.mk (KeepBut.blk hk (g' := gb145) (o := .cells #[.int .i64 0, .int .i64 0, .int .i64 0, .string (⟨#[]⟩ : ByteArray)] 24 (0, 0)) (bp_ BK145.out) NB145_149.out (by simp)); replace BK146 := Aside0.mk (KeepBut.blk hk (g' := gb146) (o := .cells #[.int .i64 (wrap64 (bt a0 0)), .int .i64 t150, .int .i64 t153, .string (⟨#[]⟩ : ByteArray)] 24 (0, 0)) (bp_ BK146.out) NB146_149.out (by simp)); replace HB := Aside0.mk (hb); replace HI149 := Aside0.mk (hi); (try clear hb); (try clear hb2); (try clear hk); (try clear hi); obtain ⟨hcz25_0, hcz25_1, hcz25_2, hcz25_3, hfz25_0, hfz25_1, hfz25_2, hfz25_3⟩ := bc4_ BK146))
      obtain ⟨w26, hW_⟩ : ∃ x, x = (w24.setCell ⟨gb146, 3, none⟩ (.string (a0.extract ((ji9) : Int).toNat a0.size))) := ⟨_, rfl⟩
      have n0_ : Aside0 (w26.heap[gb145]? = some (.cells #[.int .i64 0, .int .i64 0, .int .i64 0, .string (⟨#[]⟩ : ByteArray)] 24 (0, 0))) := ⟨by rw [hW_]; exact bp_ BK145.out⟩
      have n1_ : Aside0 (w26.heap[gb146]? = some (.cells #[.int .i64 (wrap64 (bt a0 0)), .int .i64 t150, .int .i64 t153, .string (a0.extract ((ji9) : Int).toNat a0.size)] 24 (0, 0))) := ⟨by rw [hW_]; exact bp_ BK146.out⟩
      have n2_ : Aside0 (IsS91 w w26 g149 t157 t158) := ⟨by rw [hW_]; repeat (first | (with_reducible first | exact HI149.out | apply IsS91.alloc | apply IsS91.drewN | apply IsS91.drew | apply IsS91.set_0 | apply IsS91.set_1 | refine IsS91.far ?_ NB149_145.out _ | refine IsS91.far ?_ NB149_146.out _) | exact HI149.out)⟩
      have n3_ : Aside0 (Below w.heap.size w w26) := ⟨by rw [hW_]; repeat (first | (with_reducible first | exact HB.out | apply below_alloc | apply pw_below_drewN | apply below_drew1 | refine below_set ?_ (IsS91.ge HI149.out) | refine below_set ?_ GE145.out | refine below_set ?_ GE146.out) | exact HB.out)⟩
      (try clear BK145)
      (try clear BK146)
      (try clear HI149)
      (try clear HB)
      rw [← hW_]; clear hW_
      have BK145 := n0_
      have BK146 := n1_
      have HI149 := n2_
      have HB := n3_
      clear n0_ n1_ n2_ n3_
      have n0_ := Aside0.mk (blk_drew BK145.out)
      have n1_ := Aside0.mk (blk_drew BK146.out)
      have n2_ := Aside0.mk (IsS91.drew HI149.out)
      have n3_ := Aside0.mk (below_drew1 HB.out)
      clear BK145
      clear BK146
      clear HI149
      clear HB
      have BK145 := n0_
      have BK146 := n1_
      have HI149 := n2_
      have HB := n3_
      clear n0_ n1_ n2_ n3_
      refine start_ (n := 10) (S := fun w' => w'.cell? ⟨gb146, 0, none⟩ = some (.int .i64 (wrap64 (bt a0 0))) ∧ w'.cell? ⟨gb146, 1, none⟩ = some (.int .i64 t150) ∧ w'.cell? ⟨gb146, 2, none⟩ = some (.int .i64 t153) ∧ w'.cell? ⟨gb146, 3, none⟩ = some (.string (a0.extract ((ji9) : Int).toNat a0.size))) (ds := []) #[false, false, false, false, false, false, false, false, false, false] (by kernel_rfl) rfl rfl ⟨(blk_cell BK146.out 0).trans rfl, (blk_cell BK146.out 1).trans rfl, (blk_cell BK146.out 2).trans rfl, (blk_cell BK146.out 3).trans rfl⟩ (fun hHeld => ?_); refine with_tabW record_within.tab5 record_within.bits5 (fun HT_ HW_ => ?_)
      generalize w26.drew = w27 at BK145 BK146 HI149 HB hHeld ⊢
      refine pp_ (i := 1) (N := some 28) #[false, true, false, false, false, false, false, false, false, false] rfl rfl (any_of HT_.out (by kernel_rfl)) (h := ?_)
      refine take_ (i := 0) (N := some 27) (v := ?_) (a' := ?_) #[true, true, false, false, false, false, false, false, false, false] rfl rfl (take_ofW HT_.out HW_.out (by kernel_rfl)) (fun _ _ _ h => h) (Or.inl ⟨by rfl, ?_⟩) hHeld ?_ ?_
      rotate_left
      ·rintro w' ⟨s0, s1, s2, s3⟩
       go_simp
       with_reducible rfl
      rotate_left
      ·simp only [Act.put, List.setIfInBounds_toArray, List.set_cons_zero, List.set_cons_succ, i64_w, i32_w]
       rfl
      refine one_ (i := 2) (N := some 29) #[true, true, true, false, false, false, false, false, false, false] rfl rfl (one_of HT_.out (by kernel_rfl)) (by decide) (fun K hK => ?_)
      refine goes_ Try.func55 (by kernel_rfl) rfl #[.pointer (some ⟨g149, 0, none⟩)] (by rfl) rfl rfl (by (try simp only [List.map_toArray, List.map_cons, List.map_nil]); first | done | rfl | (simp only [List.length_drop, List.length_take]; rfl)) ?_
      with_reducible refine (code_Reader_Err.calls g149 t157 t158 t159 t160 t161 w _ ?side1 ?side2 A12.out).mono ?_
      (case side1 => repeat (first | (with_reducible first | exact HI149.out | apply IsS91.alloc | apply IsS91.drewN | apply IsS91.drew | apply IsS91.set_0 | apply IsS91.set_1 | refine IsS91.far ?_ NB149_145.out _ | refine IsS91.far ?_ NB149_146.out _) | exact HI149.out))
      (case side2 => repeat (first | (with_reducible first | exact HB.out | apply below_alloc | apply pw_below_drewN | apply below_drew1 | refine below_set ?_ (IsS91.ge HI149.out) | refine below_set ?_ GE145.out | refine below_set ?_ GE146.out) | exact HB.out))
      rintro e w28 ⟨rfl, hi, hb, hk⟩
      refine ⟨_, rfl, ?_⟩
      have n0_ := Aside0.mk (KeepBut.blk hk (g' := gb145) (o := .cells #[.int .i64 0, .int .i64 0, .int .i64 0, .string (⟨#[]⟩ : ByteArray)] 24 (0, 0)) (bw_ BK145.out) NB145_149.out (by simp))
      have n1_ := Aside0.mk (KeepBut.blk hk (g' := gb146) (o := .cells #[.int .i64 (wrap64 (bt a0 0)), .int .i64 t150, .int .i64 t153, .string (a0.extract ((ji9) : Int).toNat a0.size)] 24 (0, 0)) (bw_ BK146.out) NB146_149.out (by simp))
      have n2_ := Aside0.mk (hb)
      have n3_ := Aside0.mk (hi)
      clear BK145
      clear BK146
      clear HB
      clear HI149
      have BK145 := n0_
      have BK146 := n1_
      have HB := n2_
      have HI149 := n3_
      clear n0_ n1_ n2_ n3_
      (try clear hb)
      (try clear hb2)
      (try clear hk)
      (try clear hi)
      refine hK.out _ _ ⟨(blk_cell BK146.out 0).trans rfl, (blk_cell BK146.out 1).trans rfl, (blk_cell BK146.out 2).trans rfl, (blk_cell BK146.out 3).trans rfl⟩ (fun hHeld => ?_)
      clear hK K
      refine norm_ (a' := ?_) ?_ ?_
      rotate_left
      ·show Act.put _ (some 29) _ = _
       simp only [Act.put, List.setIfInBounds_toArray, List.set_cons_zero, List.set_cons_succ, i64_w, i32_w]
       rfl
      refine pp_ (i := 3) (N := some 30) #[true, true, true, true, false, false, false, false, false, false] rfl rfl (any_of HT_.out (by kernel_rfl)) (h := ?_)
      refine pp_ (i := 4) (N := some 31) #[true, true, true, true, true, false, false, false, false, false] rfl rfl (any_of HT_.out (by kernel_rfl)) (h := ?_)
      refine take_ (i := 5) (N := some 32) (v := ?_) (a' := ?_) #[true, true, true, true, true, true, false, false, false, false] rfl rfl (take_ofW HT_.out HW_.out (by kernel_rfl)) (fun _ _ _ h => h) (Or.inl ⟨by rfl, ?_⟩) hHeld ?_ ?_
      rotate_left
      ·rintro w' ⟨s0, s1, s2, s3⟩
       go_simp
       with_reducible rfl
      rotate_left
      ·simp only [Act.put, List.setIfInBounds_toArray, List.set_cons_zero, List.set_cons_succ, i64_w, i32_w]
       rfl
      refine one_ (i := 6) (N := some 33) #[true, true, true, true, true, true, true, false, false, false] rfl rfl (one_of HT_.out (by kernel_rfl)) (by decide) (fun K hK => ?_)
      refine goes_ Try.func20 (by kernel_rfl) rfl #[.agg #[.int .i64 (wrap64 (bt a0 0)), .int .i64 t150, .int .i64 t153, .string (a0.extract ((ji9) : Int).toNat a0.size)]] (by rfl) rfl rfl (by (try simp only [List.map_toArray, List.map_cons, List.map_nil]); first | done | (simp only [hji9]; rfl) | rfl | (simp only [List.length_drop, List.length_take]; rfl)) ?_
      with_reducible refine (record_Right.calls (wrap64 (bt a0 0)) t150 t153 (a0.extract ((ji9) : Int).toNat a0.size) t162 _ A14.out).mono ?_
      rintro e w29 ⟨rfl, hb⟩
      refine ⟨_, rfl, ?_⟩
      have n0_ := bb_ BK145 hb
      have n1_ := bb_ BK146 hb
      have n2_ := Aside0.mk (IsS91.below (by repeat (first | (with_reducible first | exact HI149.out | apply IsS91.alloc | apply IsS91.drewN | apply IsS91.drew | apply IsS91.set_0 | apply IsS91.set_1 | refine IsS91.far ?_ NB149_145.out _ | refine IsS91.far ?_ NB149_146.out _) | exact HI149.out)) hb)
      have n3_ := Aside0.mk (below_step (by repeat (first | (with_reducible first | exact HB.out | apply below_alloc | apply pw_below_drewN | apply below_drew1 | refine below_set ?_ (IsS91.ge HI149.out) | refine below_set ?_ GE145.out | refine below_set ?_ GE146.out) | exact HB.out)) hb)
      clear BK145
      clear BK146
      clear HI149
      clear HB
      have BK145 := n0_
      have BK146 := n1_
      have HI149 := n2_
      have HB := n3_
      clear n0_ n1_ n2_ n3_
      (try clear hb)
      (try clear hb2)
      (try clear hk)
      (try clear hi)
      refine hK.out _ _ ⟨(blk_cell BK146.out 0).trans rfl, (blk_cell BK146.out 1).trans rfl, (blk_cell BK146.out 2).trans rfl, (blk_cell BK146.out 3).trans rfl⟩ (fun hHeld => ?_)
      clear hK K
      refine norm_ (a' := ?_) ?_ ?_
      rotate_left
      ·show Act.put _ (some 33) _ = _
       simp only [Act.put, List.setIfInBounds_toArray, List.set_cons_zero, List.set_cons_succ, i64_w, i32_w]
       rfl
      refine pp_ (i := 7) (N := some 34) #[true, true, true, true, true, true, true, true, false, false] rfl rfl (any_of HT_.out (by kernel_rfl)) (h := ?_)
      refine one_ (i := 8) (N := none) #[true, true, true, true, true, true, true, true, true, false] rfl rfl (one_of HT_.out (by kernel_rfl)) (by decide) (fun K hK => ?_)
      have hs30 : w29.cell? ⟨gb145, 0, none⟩ = some (.int .i64 0) := (blk_cell BK145.out 0).trans rfl
      have hfs30 := blk_frozen BK145.out 0
      have hns30_1 := NB146_145.out
      have hms30_1 := NB145_146.out
      have hs31 : w29.cell? ⟨gb145, 1, none⟩ = some (.int .i64 0) := (blk_cell BK145.out 1).trans rfl
      have hfs31 := blk_frozen BK145.out 1
      have hns31_1 := NB146_145.out
      have hms31_1 := NB145_146.out
      have hs32 : w29.cell? ⟨gb145, 2, none⟩ = some (.int .i64 0) := (blk_cell BK145.out 2).trans rfl
      have hfs32 := blk_frozen BK145.out 2
      have hns32_1 := NB146_145.out
      have hms32_1 := NB145_146.out
      have hs33 : w29.cell? ⟨gb145, 3, none⟩ = some (.string (⟨#[]⟩ : ByteArray)) := (blk_cell BK145.out 3).trans rfl
      have hfs33 := blk_frozen BK145.out 3
      have hns33_1 := NB146_145.out
      have hms33_1 := NB145_146.out
      refine skip_ (w1 := ?_) (by rfl) rfl ?_ ?_
      rotate_left
      ·go_simp
       rfl
      refine hK.out _ _ ⟨((cell_far (p := ⟨gb145, _, none⟩) NB146_145.out _).trans (((cell_far (p := ⟨gb145, _, none⟩) NB146_145.out _).trans (((cell_far (p := ⟨gb145, _, none⟩) NB146_145.out _).trans (((cell_far (p := ⟨gb145, _, none⟩) NB146_145.out _).trans (hHeld.1)))))))), ((cell_far (p := ⟨gb145, _, none⟩) NB146_145.out _).trans (((cell_far (p := ⟨gb145, _, none⟩) NB146_145.out _).trans (((cell_far (p := ⟨gb145, _, none⟩) NB146_145.out _).trans (((cell_far (p := ⟨gb145, _, none⟩) NB146_145.out _).trans (hHeld.2.1)))))))), ((cell_far (p := ⟨gb145, _, none⟩) NB146_145.out _).trans (((cell_far (p := ⟨gb145, _, none⟩) NB146_145.out _).trans (((cell_far (p := ⟨gb145, _, none⟩) NB146_145.out _).trans (((cell_far (p := ⟨gb145, _, none⟩) NB146_145.out _).trans (hHeld.2.2.1)))))))), ((cell_far (p := ⟨gb145, _, none⟩) NB146_145.out _).trans (((cell_far (p := ⟨gb145, _, none⟩) NB146_145.out _).trans (((cell_far (p := ⟨gb145, _, none⟩) NB146_145.out _).trans (((cell_far (p := ⟨gb145, _, none⟩) NB146_145.out _).trans (hHeld.2.2.2))))))))⟩ (fun hHeld => ?_)
      clear hK K
      refine pp_ (i := 9) (N := some 3) #[true, true, true, true, true, true, true, true, true, true] rfl rfl (any_of HT_.out (by kernel_rfl)) (h := ?_)
      refine done_ (done_of HT_.out (by kernel_rfl)) ?_
      try go_wp2
      refine bodyPost_ret (results_ct rfl _ _ gb145 24 #[.int .i64 (wrap64 (bt a0 0)), .int .i64 t150, .int .i64 t153, .string (a0.extract ((ji9) : Int).toNat a0.size)] (0, 0) _ rfl (bp_ BK145.out) Try.underlying24 rfl (by kernel_rfl)) rfl ?_
      exact ⟨by first | rfl | (simp [errW_none, errW_some] <;> rfl) | (simp only [← hji9]; first | rfl | (simp [errW_none, errW_some] <;> rfl)) | (simp [*, errW_none, errW_some] <;> rfl), by repeat (first | (with_reducible first | exact HB.out | apply below_alloc | apply pw_below_drewN | apply below_drew1 | refine below_set ?_ (IsS91.ge HI149.out) | refine below_set ?_ GE145.out | refine below_set ?_ GE146.out) | exact HB.out)⟩
     ·rw [if_neg c13] at H
      have c13b0 : (t159 == 0) = false := beq_eq_false_iff_ne.mpr c13
      have c13b1 : (t159 != 0) = true := bne_iff_ne.mpr c13
      simp only [Option.some.injEq, Prod.mk.injEq] at H
      obtain ⟨rfl, rfl, rfl, rfl, rfl⟩ := H
      go_enter Try.func60, Try.ntmps60
      try go_wp2_with (first | ((with_reducible refine gate_dst (N := 2) rfl ?_); refine be_ (N := 2) (cs := #[.int .i64 0, .int .i64 0, .int .i64 0, .string (⟨#[]⟩ : ByteArray)]) (t := 24) (h := ?_); intro gb145 hg w34 hbox hb; have BK145 := Aside0.mk (hbox); have GW145 := gw_ HB hg; have GE145 := gw_ HB hg; replace HB := bs_ HB hb; clear hb hbox hg; have p3 : 0 ≤ (0 : Int) := (by omega); have q3 : 0 < a0.size := (by have : (0 : Int) < (a0.size : Int) := of_decide_eq_true as_; omega); have hx3 : ∀ h : 0 < a0.size, ((a0[0]'h).toNat : Int) = bt a0 0 := bt_at a0 0; clear p3; have qi3 : (0 < (a0.size : Int)) = True := eq_true (of_decide_eq_true as_); replace q3 := eq_true q3) | ((with_reducible refine gate_dst (N := 4) rfl ?_); refine be_ (N := 4) (cs := #[.int .i64 0, .int .i64 0, .int .i64 0, .string (⟨#[]⟩ : ByteArray)]) (t := 24) (h := ?_); intro gb146 hg w35 hbox hb; have BK146 := Aside0.mk (hbox); have GW146 := gw_ HB hg; have GE146 := gw_ HB hg; have NB145_146 := ne_ BK145 hg; have NB146_145 := en_ BK145 hg; replace BK145 := bb_ BK145 hb; replace HB := bs_ HB hb; clear hb hbox hg; have hnb36 := NB146_145.out; have hnc36 := NB145_146.out; obtain ⟨hcz37_0, hcz37_1, hcz37_2, hcz37_3, hfz37_0, hfz37_1, hfz37_2, hfz37_3⟩ := bc4_ BK146) | ((with_reducible refine gate_callee (f := 31) rfl ?_); refine ge_ (some 12) rfl rfl Try.func31 (by kernel_rfl) rfl #[.string (a0.extract 1 a0.size)] rfl (h := ?_); (with_reducible refine (code_NewReader.calls (a0.extract 1 a0.size) t147 t148 w _ ?side1 A5.out).mono ?_); (case side1 => repeat (first | (with_reducible first | exact HB.out | apply below_alloc | apply pw_below_drewN | apply below_drew1 | refine below_set ?_ GE145.out | refine below_set ?_ GE146.out) | exact HB.out)); rintro e w38 ⟨g149, rfl, hi, hb, hb2⟩; refine ⟨_, rfl, ?_⟩; have HI149 := Aside0.mk (hi); have NB149_145 := Aside0.mk (IsS91.ne_blk hi (blk_below (g := gb145) (o := .cells #[.int .i64 0, .int .i64 0, .int .i64 0, .string (⟨#[]⟩ : ByteArray)] 24 (0, 0)) (bp_ BK145.out) hb2) (by decide)); have NB145_149 := Aside0.mk (Ne.symm (IsS91.ne_blk hi (blk_below (g := gb145) (o := .cells #[.int .i64 0, .int .i64 0, .int .i64 0, .string (⟨#[]⟩ : ByteArray)] 24 (0, 0)) (bp_ BK145.out) hb2) (by decide))); have NB149_146 := Aside0.mk (IsS91.ne_blk hi (blk_below (g := gb146) (o := .cells #[.int .i64 (wrap64 (bt a0 0)), .int .i64 0, .int .i64 0, .string (⟨#[]⟩ : ByteArray)] 24 (0, 0)) (bp_ BK146.out) hb2) (by decide)); have NB146_149 := Aside0.mk (Ne.symm (IsS91.ne_blk hi (blk_below (g := gb146) (o := .cells #[.int .i64 (wrap64 (bt a0 0)), .int .i64 0, .int .i64 0, .string (⟨#[]⟩ : ByteArray)] 24 (0, 0)) (bp_ BK146.out) hb2) (by decide))); replace BK145 := Aside0.mk (blk_below (g := gb145) (o := .cells #[.int .i64 0, .int .i64 0, .int .i64 0, .string (⟨#[]⟩ : ByteArray)] 24 (0, 0)) (bp_ BK145.out) hb2); replace BK146 := Aside0.mk (blk_below (g := gb146) (o := .cells #[.int .i64 (wrap64 (bt a0 0)), .int .i64 0, .int .i64 0, .string (⟨#[]⟩ : ByteArray)] 24 (0, 0)) (bp_ BK146.out) hb2); replace HB := Aside0.mk (hb); (try clear hb); (try clear hb2); (try clear hk); (try clear hi)) | ((with_reducible refine gate_callee (f := 54) rfl ?_); refine ge_ (some 14) rfl rfl Try.func54 (by kernel_rfl) rfl #[.pointer (some ⟨g149, 0, none⟩)] rfl (h := ?_); (with_reducible refine (code_Reader_Num.calls g149 t147 t148 t150 t151 t152 w _ ?side1 ?side2 A6.out).mono ?_); (case side1 => repeat (first | (with_reducible first | exact HI149.out | apply IsS91.alloc | apply IsS91.drewN | apply IsS91.drew | apply IsS91.set_0 | apply IsS91.set_1 | refine IsS91.far ?_ NB149_145.out _ | refine IsS91.far ?_ NB149_146.out _) | exact HI149.out)); (case side2 => repeat (first | (with_reducible first | exact HB.out | apply below_alloc | apply pw_below_drewN | apply below_drew1 | refine below_set ?_ (IsS91.ge HI149.out) | refine below_set ?_ GE145.out | refine below_set ?_ GE146.out) | exact HB.out)); rintro e w39 ⟨rfl, hi, hb, hk⟩; refine ⟨_, rfl, ?_⟩; replace BK145 := Aside0.mk (KeepBut.blk hk (g' := gb145) (o := .cells #[.int .i64 0, .int .i64 0, .int .i64 0, .string (⟨#[]⟩ : ByteArray)] 24 (0, 0)) (bw_ BK145.out) NB145_149.out (by simp)); replace BK146 := Aside0.mk (KeepBut.blk hk (g' := gb146) (o := .cells #[.int .i64 (wrap64 (bt a0 0)), .int .i64 0, .int .i64 0, .string (⟨#[]⟩ : ByteArray)] 24 (0, 0)) (bw_ BK146.out) NB146_149.out (by simp)); replace HB := Aside0.mk (hb); replace HI149 := Aside0.mk (hi); (try clear hb); (try clear hb2); (try clear hk); (try clear hi)) | ((with_reducible refine gate_callee (f := 54) rfl ?_); refine ge_ (some 16) rfl rfl Try.func54 (by kernel_rfl) rfl #[.pointer (some ⟨g149, 0, none⟩)] rfl (h := ?_); (with_reducible refine (code_Reader_Num.calls g149 t151 t152 t153 t154 t155 w _ ?side1 ?side2 A7.out).mono ?_); (case side1 => repeat (first | (with_reducible first | exact HI149.out | apply IsS91.alloc | apply IsS91.drewN | apply IsS91.drew | apply IsS91.set_0 | apply IsS91.set_1 | refine IsS91.far ?_ NB149_145.out _ | refine IsS91.far ?_ NB149_146.out _) | exact HI149.out)); (case side2 => repeat (first | (with_reducible first | exact HB.out | apply below_alloc | apply pw_below_drewN | apply below_drew1 | refine below_set ?_ (IsS91.ge HI149.out) | refine below_set ?_ GE145.out | refine below_set ?_ GE146.out) | exact HB.out)); rintro e w40 ⟨rfl, hi, hb, hk⟩; refine ⟨_, rfl, ?_⟩; replace BK145 := Aside0.mk (KeepBut.blk hk (g' := gb145) (o := .cells #[.int .i64 0, .int .i64 0, .int .i64 0, .string (⟨#[]⟩ : ByteArray)] 24 (0, 0)) (bw_ BK145.out) NB145_149.out (by simp)); replace BK146 := Aside0.mk (KeepBut.blk hk (g' := gb146) (o := .cells #[.int .i64 (wrap64 (bt a0 0)), .int .i64 0, .int .i64 0, .string (⟨#[]⟩ : ByteArray)] 24 (0, 0)) (bw_ BK146.out) NB146_149.out (by simp)); replace HB := Aside0.mk (hb); replace HI149 := Aside0.mk (hi); (try clear hb); (try clear hb2); (try clear hk); (try clear hi); have hnb41 := NB146_149.out; have hnc41 := NB149_146.out; obtain ⟨hcz42_0, hcz42_1, hcz42_2, hcz42_3, hfz42_0, hfz42_1, hfz42_2, hfz42_3⟩ := bc4_ BK146) | ((with_reducible refine gate_callee (f := 35) rfl ?_); refine ge_ (some 23) rfl rfl Try.func35 (by kernel_rfl) rfl #[.pointer (some ⟨g149, 0, none⟩)] rfl (h := ?_); (with_reducible refine (code_Reader_Left.calls g149 t154 t155 t156 t157 t158 w _ ?side1 ?side2 A8.out).mono ?_); (case side1 => repeat (first | (with_reducible first | exact HI149.out | apply IsS91.alloc | apply IsS91.drewN | apply IsS91.drew | apply IsS91.set_0 | apply IsS91.set_1 | refine IsS91.far ?_ NB149_145.out _ | refine IsS91.far ?_ NB149_146.out _) | exact HI149.out)); (case side2 => repeat (first | (with_reducible first | exact HB.out | apply below_alloc | apply pw_below_drewN | apply below_drew1 | refine below_set ?_ (IsS91.ge HI149.out) | refine below_set ?_ GE145.out | refine below_set ?_ GE146.out) | exact HB.out)); rintro e w43 ⟨rfl, hi, hb, hk⟩; refine ⟨_, rfl, ?_⟩; replace BK145 := Aside0.mk (KeepBut.blk hk (g' := gb145) (o := .cells #[.int .i64 0, .int .i64 0, .int .i64 0, .string (⟨#[]⟩ : ByteArray)] 24 (0, 0)) (bp_ BK145.out) NB145_149.out (by simp)); replace BK146 := Aside0.mk (KeepBut.blk hk (g' := gb146) (o := .cells #[.int .i64 (wrap64 (bt a0 0)), .int .i64 t150, .int .i64 t153, .string (⟨#[]⟩ : ByteArray)] 24 (0, 0)) (bp_ BK146.out) NB146_149.out (by simp)); replace HB := Aside0.mk (hb); replace HI149 := Aside0.mk (hi); (try clear hb); (try clear hb2); (try clear hk); (try clear hi); obtain ⟨hcz44_0, hcz44_1, hcz44_2, hcz44_3, hfz44_0, hfz44_1, hfz44_2, hfz44_3⟩ := bc4_ BK146))
      obtain ⟨w45, hW_⟩ : ∃ x, x = (w43.setCell ⟨gb146, 3, none⟩ (.string (a0.extract ((ji9) : Int).toNat a0.size))) := ⟨_, rfl⟩
      have n0_ : Aside0 (w45.heap[gb145]? = some (.cells #[.int .i64 0, .int .i64 0, .int .i64 0, .string (⟨#[]⟩ : ByteArray)] 24 (0, 0))) := ⟨by rw [hW_]; exact bp_ BK145.out⟩
      have n1_ : Aside0 (w45.heap[gb146]? = some (.cells #[.int .i64 (wrap64 (bt a0 0)), .int .i64 t150, .int .i64 t153, .string (a0.extract ((ji9) : Int).toNat a0.size)] 24 (0, 0))) := ⟨by rw [hW_]; exact bp_ BK146.out⟩
      have n2_ : Aside0 (IsS91 w w45 g149 t157 t158) := ⟨by rw [hW_]; repeat (first | (with_reducible first | exact HI149.out | apply IsS91.alloc | apply IsS91.drewN | apply IsS91.drew | apply IsS91.set_0 | apply IsS91.set_1 | refine IsS91.far ?_ NB149_145.out _ | refine IsS91.far ?_ NB149_146.out _) | exact HI149.out)⟩
      have n3_ : Aside0 (Below w.heap.size w w45) := ⟨by rw [hW_]; repeat (first | (with_reducible first | exact HB.out | apply below_alloc | apply pw_below_drewN | apply below_drew1 | refine below_set ?_ (IsS91.ge HI149.out) | refine below_set ?_ GE145.out | refine below_set ?_ GE146.out) | exact HB.out)⟩
      (try clear BK145)
      (try clear BK146)
      (try clear HI149)
      (try clear HB)
      rw [← hW_]; clear hW_
      have BK145 := n0_
      have BK146 := n1_
      have HI149 := n2_
      have HB := n3_
      clear n0_ n1_ n2_ n3_
      have n0_ := Aside0.mk (blk_drew BK145.out)
      have n1_ := Aside0.mk (blk_drew BK146.out)
      have n2_ := Aside0.mk (IsS91.drew HI149.out)
      have n3_ := Aside0.mk (below_drew1 HB.out)
      clear BK145
      clear BK146
      clear HI149
      clear HB
      have BK145 := n0_
      have BK146 := n1_
      have HI149 := n2_
      have HB := n3_
      clear n0_ n1_ n2_ n3_
      refine start_ (n := 10) (S := fun w' => w'.cell? ⟨gb146, 0, none⟩ = some (.int .i64 (wrap64 (bt a0 0))) ∧ w'.cell? ⟨gb146, 1, none⟩ = some (.int .i64 t150) ∧ w'.cell? ⟨gb146, 2, none⟩ = some (.int .i64 t153) ∧ w'.cell? ⟨gb146, 3, none⟩ = some (.string (a0.extract ((ji9) : Int).toNat a0.size))) (ds := []) #[false, false, false, false, false, false, false, false, false, false] (by kernel_rfl) rfl rfl ⟨(blk_cell BK146.out 0).trans rfl, (blk_cell BK146.out 1).trans rfl, (blk_cell BK146.out 2).trans rfl, (blk_cell BK146.out 3).trans rfl⟩ (fun hHeld => ?_); refine with_tabW record_within.tab5 record_within.bits5 (fun HT_ HW_ => ?_)
      generalize w45.drew = w46 at BK145 BK146 HI149 HB hHeld ⊢
      refine pp_ (i := 1) (N := some 28) #[false, true, false, false, false, false, false, false, false, false] rfl rfl (any_of HT_.out (by kernel_rfl)) (h := ?_)
      refine take_ (i := 0) (N := some 27) (v := ?_) (a' := ?_) #[true, true, false, false, false, false, false, false, false, false] rfl rfl (take_ofW HT_.out HW_.out (by kernel_rfl)) (fun _ _ _ h => h) (Or.inl ⟨by rfl, ?_⟩) hHeld ?_ ?_
      rotate_left
      ·rintro w' ⟨s0, s1, s2, s3⟩
       go_simp
       with_reducible rfl
      rotate_left
      ·simp only [Act.put, List.setIfInBounds_toArray, List.set_cons_zero, List.set_cons_succ, i64_w, i32_w]
       rfl
      refine one_ (i := 2) (N := some 29) #[true, true, true, false, false, false, false, false, false, false] rfl rfl (one_of HT_.out (by kernel_rfl)) (by decide) (fun K hK => ?_)
      refine goes_ Try.func55 (by kernel_rfl) rfl #[.pointer (some ⟨g149, 0, none⟩)] (by rfl) rfl rfl (by (try simp only [List.map_toArray, List.map_cons, List.map_nil]); first | done | rfl | (simp only [List.length_drop, List.length_take]; rfl)) ?_
      with_reducible refine (code_Reader_Err.calls g149 t157 t158 t159 t160 t161 w _ ?side1 ?side2 A12.out).mono ?_
      (case side1 => repeat (first | (with_reducible first | exact HI149.out | apply IsS91.alloc | apply IsS91.drewN | apply IsS91.drew | apply IsS91.set_0 | apply IsS91.set_1 | refine IsS91.far ?_ NB149_145.out _ | refine IsS91.far ?_ NB149_146.out _) | exact HI149.out))
      (case side2 => repeat (first | (with_reducible first | exact HB.out | apply below_alloc | apply pw_below_drewN | apply below_drew1 | refine below_set ?_ (IsS91.ge HI149.out) | refine below_set ?_ GE145.out | refine below_set ?_ GE146.out) | exact HB.out))
      rintro e w47 ⟨rfl, hi, hb, hk⟩
      refine ⟨_, rfl, ?_⟩
      have n0_ := Aside0.mk (KeepBut.blk hk (g' := gb145) (o := .cells #[.int .i64 0, .int .i64 0, .int .i64 0, .string (⟨#[]⟩ : ByteArray)] 24 (0, 0)) (bw_ BK145.out) NB145_149.out (by simp))
      have n1_ := Aside0.mk (KeepBut.blk hk (g' := gb146) (o := .cells #[.int .i64 (wrap64 (bt a0 0)), .int .i64 t150, .int .i64 t153, .string (a0.extract ((ji9) : Int).toNat a0.size)] 24 (0, 0)) (bw_ BK146.out) NB146_149.out (by simp))
      have n2_ := Aside0.mk (hb)
      have n3_ := Aside0.mk (hi)
      clear BK145
      clear BK146
      clear HB
      clear HI149
      have BK145 := n0_
      have BK146 := n1_
      have HB := n2_
      have HI149 := n3_
      clear n0_ n1_ n2_ n3_
      (try clear hb)
      (try clear hb2)
      (try clear hk)
      (try clear hi)
      refine hK.out _ _ ⟨(blk_cell BK146.out 0).trans rfl, (blk_cell BK146.out 1).trans rfl, (blk_cell BK146.out 2).trans rfl, (blk_cell BK146.out 3).trans rfl⟩ (fun hHeld => ?_)
      clear hK K
      refine norm_ (a' := ?_) ?_ ?_
      rotate_left
      ·show Act.put _ (some 29) _ = _
       simp only [Act.put, List.setIfInBounds_toArray, List.set_cons_zero, List.set_cons_succ, i64_w, i32_w]
       rfl
      refine pp_ (i := 3) (N := some 30) #[true, true, true, true, false, false, false, false, false, false] rfl rfl (any_of HT_.out (by kernel_rfl)) (h := ?_)
      refine pp_ (i := 4) (N := some 31) #[true, true, true, true, true, false, false, false, false, false] rfl rfl (any_of HT_.out (by kernel_rfl)) (h := ?_)
      refine pure_ (i := 5) (N := some 32) (v := undef) (a' := ?_) #[true, true, true, true, true, true, false, false, false, false] rfl rfl (any_of HT_.out (by kernel_rfl)) (fun _ _ _ h => h) (Or.inr ⟨by rfl, rfl⟩) ?_ ?_
      rotate_left
      ·simp only [Act.put, List.setIfInBounds_toArray, List.set_cons_zero, List.set_cons_succ, i64_w, i32_w]
       rfl
      refine pure_ (i := 6) (N := some 33) (v := undef) (a' := ?_) #[true, true, true, true, true, true, true, false, false, false] rfl rfl (any_of HT_.out (by kernel_rfl)) (fun _ _ _ h => h) (Or.inr ⟨by rfl, rfl⟩) ?_ ?_
      rotate_left
      ·simp only [Act.put, List.setIfInBounds_toArray, List.set_cons_zero, List.set_cons_succ, i64_w, i32_w]
       rfl
      refine pp_ (i := 7) (N := some 34) #[true, true, true, true, true, true, true, true, false, false] rfl rfl (any_of HT_.out (by kernel_rfl)) (h := ?_)
      refine one_ (i := 8) (N := none) #[true, true, true, true, true, true, true, true, true, false] rfl rfl (one_of HT_.out (by kernel_rfl)) (by decide) (fun K hK => ?_)
      have hs48 : w47.cell? ⟨gb145, 0, none⟩ = some (.int .i64 0) := (blk_cell BK145.out 0).trans rfl
      have hfs48 := blk_frozen BK145.out 0
      have hns48_1 := NB146_145.out
      have hms48_1 := NB145_146.out
      have hs49 : w47.cell? ⟨gb145, 1, none⟩ = some (.int .i64 0) := (blk_cell BK145.out 1).trans rfl
      have hfs49 := blk_frozen BK145.out 1
      have hns49_1 := NB146_145.out
      have hms49_1 := NB145_146.out
      have hs50 : w47.cell? ⟨gb145, 2, none⟩ = some (.int .i64 0) := (blk_cell BK145.out 2).trans rfl
      have hfs50 := blk_frozen BK145.out 2
      have hns50_1 := NB146_145.out
      have hms50_1 := NB145_146.out
      have hs51 : w47.cell? ⟨gb145, 3, none⟩ = some (.string (⟨#[]⟩ : ByteArray)) := (blk_cell BK145.out 3).trans rfl
      have hfs51 := blk_frozen BK145.out 3
      have hns51_1 := NB146_145.out
      have hms51_1 := NB145_146.out
      refine skip_ (w1 := ?_) (by rfl) rfl ?_ ?_
      rotate_left
      ·go_simp
       rfl
      refine hK.out _ _ ⟨((cell_far (p := ⟨gb145, _, none⟩) NB146_145.out _).trans (((cell_far (p := ⟨gb145, _, none⟩) NB146_145.out _).trans (((cell_far (p := ⟨gb145, _, none⟩) NB146_145.out _).trans (((cell_far (p := ⟨gb145, _, none⟩) NB146_145.out _).trans (hHeld.1)))))))), ((cell_far (p := ⟨gb145, _, none⟩) NB146_145.out _).trans (((cell_far (p := ⟨gb145, _, none⟩) NB146_145.out _).trans (((cell_far (p := ⟨gb145, _, none⟩) NB146_145.out _).trans (((cell_far (p := ⟨gb145, _, none⟩) NB146_145.out _).trans (hHeld.2.1)))))))), ((cell_far (p := ⟨gb145, _, none⟩) NB146_145.out _).trans (((cell_far (p := ⟨gb145, _, none⟩) NB146_145.out _).trans (((cell_far (p := ⟨gb145, _, none⟩) NB146_145.out _).trans (((cell_far (p := ⟨gb145, _, none⟩) NB146_145.out _).trans (hHeld.2.2.1)))))))), ((cell_far (p := ⟨gb145, _, none⟩) NB146_145.out _).trans (((cell_far (p := ⟨gb145, _, none⟩) NB146_145.out _).trans (((cell_far (p := ⟨gb145, _, none⟩) NB146_145.out _).trans (((cell_far (p := ⟨gb145, _, none⟩) NB146_145.out _).trans (hHeld.2.2.2))))))))⟩ (fun hHeld => ?_)
      clear hK K
      refine pp_ (i := 9) (N := some 3) #[true, true, true, true, true, true, true, true, true, true] rfl rfl (any_of HT_.out (by kernel_rfl)) (h := ?_)
      refine done_ (done_of HT_.out (by kernel_rfl)) ?_
      try go_wp2
      refine bodyPost_ret (results_ct rfl _ _ gb145 24 #[.int .i64 (wrap64 (bt a0 0)), .int .i64 t150, .int .i64 t153, .string (a0.extract ((ji9) : Int).toNat a0.size)] (0, 0) _ rfl (bp_ BK145.out) Try.underlying24 rfl (by kernel_rfl)) rfl ?_
      exact ⟨by first | rfl | (simp [errW_none, errW_some] <;> rfl) | (simp only [← hji9]; first | rfl | (simp [errW_none, errW_some] <;> rfl)) | (simp [*, errW_none, errW_some] <;> rfl), by repeat (first | (with_reducible first | exact HB.out | apply below_alloc | apply pw_below_drewN | apply below_drew1 | refine below_set ?_ (IsS91.ge HI149.out) | refine below_set ?_ GE145.out | refine below_set ?_ GE146.out) | exact HB.out)⟩
    ·rw [if_neg c11] at H
     exact absurd H (by simp)
   ·rw [if_neg c10] at H
    exact absurd H (by simp)
  ·rw [if_neg c4] at H
   exact absurd H (by simp)
 ·rw [if_neg c2] at H
  exact absurd H (by simp)

/-! ### record_Read: function 24 -/
def record_Read.j0 : Nat → ByteArray → Int → Bool → Option (Int × Int × Int × ByteArray × Int × Int)
 | 0, _, _, _ => none
 | k + 1, x0, x6, x30 => if x30 = true then (some (0, 0, 0, (⟨#[]⟩ : ByteArray), 0, 3)) else (if (x0.size : Int) < (wrap64 (x6 + 8)) then (some (0, 0, 0, (⟨#[]⟩ : ByteArray), 0, 2)) else (if 0 ≤ (wrap64 (x6 + 8)) then (if (wrap64 (x6 + 8)) ≤ (x0.size : Int) then ((crc_Open.f k (x0.extract 0 ((wrap64 (x6 + 8)) : Int).toNat)).bind fun bt173 => (if bt173.2 = 0 then (if 4 ≤ (bt173.1.size : Int) then ((record_within.f (bt173.1.extract 4 bt173.1.size)).bind fun bt175 => (if bt175.2.2.2.2 = true then (some (bt175.1, bt175.2.1, bt175.2.2.1, bt175.2.2.2.1, wrap64 (x6 + 8), 0)) else (some (0, 0, 0, (⟨#[]⟩ : ByteArray), 0, 3)))) else (none)) else (some (0, 0, 0, (⟨#[]⟩ : ByteArray), 0, bt173.2)))) else (none)) else (none)))
def record_Read.f (k : Nat) (a0 : ByteArray) : Option (Int × Int × Int × ByteArray × Int × Int) := if (a0.size : Int) < 4 then (some (0, 0, 0, (⟨#[]⟩ : ByteArray), 0, 2)) else (if 0 ≤ 4 then (if 4 ≤ (a0.size : Int) then ((code_NewReader.f (a0.extract 0 4)).bind fun bt164 => ((code_Reader_Num.f bt164.1 bt164.2).bind fun bt167 => ((code_Reader_Err.f bt167.2.1 bt167.2.2).bind fun bt170 => (if bt170.1 = 0 then (if bt167.1 < 9 then (record_Read.j0 k a0 bt167.1 true) else (record_Read.j0 k a0 bt167.1 (decide (bt167.1 > 73)))) else (record_Read.j0 k a0 bt167.1 true))))) else (none)) else (none))
theorem record_Read.mono_l : ∀ k, (∀ y0 y1 y2, LeO (record_Read.j0 k y0 y1 y2) (record_Read.j0 (k + 1) y0 y1 y2))
 | 0 => fun _ _ _ r h => by simp [record_Read.j0] at h
 | k + 1 => by
  have ih0 := record_Read.mono_l k
  ·intro y0 y1 y2
   unfold record_Read.j0
   repeat' first
   | (with_reducible exact ih0 _ _ _)
   | (with_reducible exact crc_Open.mono _ _)
   | (with_reducible exact LeO.refl _)
   | (with_reducible exact LeO.none _)
   | (with_reducible refine LeO.ite ?_ ?_)
   | (with_reducible refine LeO.bind ?_ (fun _ => ?_))
   | exact ih0 _ _ _
   | exact crc_Open.mono _ _
   | exact LeO.none _
   | refine LeO.ite ?_ ?_
   | refine LeO.bind ?_ (fun _ => ?_)
theorem record_Read.mono : ∀ a0 k, LeO (record_Read.f k a0) (record_Read.f (k + 1) a0) := by
 intro a0 k
 have ih0 := record_Read.mono_l k
 unfold record_Read.f
 repeat' first
   | (with_reducible exact ih0 _ _ _)
   | (with_reducible exact crc_Open.mono _ _)
   | (with_reducible exact LeO.refl _)
   | (with_reducible exact LeO.none _)
   | (with_reducible refine LeO.ite ?_ ?_)
   | (with_reducible refine LeO.bind ?_ (fun _ => ?_))
   | exact ih0 _ _ _
   | exact crc_Open.mono _ _
   | exact LeO.none _
   | refine LeO.ite ?_ ?_
   | refine LeO.bind ?_ (fun _ => ?_)
set_option maxHeartbeats 8000000 in
set_option maxRecDepth 100000 in
theorem record_Read.calls (k : Nat) (a0 : ByteArray) (r1 : Int) (r2 : Int) (r3 : Int) (r4 : ByteArray) (r5 : Int) (r6 : Int) (w : World) (h : record_Read.f k a0 = some (r1, r2, r3, r4, r5, r6)) :
  Calls Try.prog 24 #[.string a0] w fun e w' => e = .returned (.tuple #[.agg #[.int .i64 r1, .int .i64 r2, .int .i64 r3, .string r4], .int .i64 r5, .int .i64 r6]) ∧ Below w.heap.size w w' := by
 have hu24 := Try.underlying24
 have HB := Aside0.mk (Below.refl w.heap.size w)
 have H : (if (a0.size : Int) < 4 then (some (0, 0, 0, (⟨#[]⟩ : ByteArray), 0, 2)) else (if 0 ≤ 4 then (if 4 ≤ (a0.size : Int) then ((code_NewReader.f (a0.extract 0 4)).bind fun bt164 => ((code_Reader_Num.f bt164.1 bt164.2).bind fun bt167 => ((code_Reader_Err.f bt167.2.1 bt167.2.2).bind fun bt170 => (if bt170.1 = 0 then (if bt167.1 < 9 then (record_Read.j0 k a0 bt167.1 true) else (record_Read.j0 k a0 bt167.1 (decide (bt167.1 > 73)))) else (record_Read.j0 k a0 bt167.1 true))))) else (none)) else (none))) = some (r1, r2, r3, r4, r5, r6) := h
 clear h
 by_cases c2 : (a0.size : Int) < 4
 ·rw [if_pos c2] at H
  have c2b0 : decide ((a0.size : Int) < 4) = true := decide_eq_true c2
  have c2b1 : decide (a0.size < 4) = true := decide_eq_true (by omega)
  clear c2
  simp only [Option.some.injEq, Prod.mk.injEq] at H
  obtain ⟨rfl, rfl, rfl, rfl, rfl, rfl⟩ := H
  go_enter Try.func24, Try.ntmps24
  go_wp2_with (first | ((with_reducible refine gate_dst (N := 2) rfl ?_); refine be_ (N := 2) (cs := #[.int .i64 0, .int .i64 0, .int .i64 0, .string (⟨#[]⟩ : ByteArray)]) (t := 24) (h := ?_); intro gb163 hg w3 hbox hb; have BK163 := Aside0.mk (hbox); have GW163 := gw_ HB hg; have GE163 := gw_ HB hg; replace HB := bs_ HB hb; clear hb hbox hg; obtain ⟨hcz4_0, hcz4_1, hcz4_2, hcz4_3, hfz4_0, hfz4_1, hfz4_2, hfz4_3⟩ := bc4_ BK163))
  refine bodyPost_ret (results_ctt rfl _ _ gb163 24 #[.int .i64 0, .int .i64 0, .int .i64 0, .string (⟨#[]⟩ : ByteArray)] (0, 0) _ rfl (bp_ BK163.out) Try.underlying24 rfl (by kernel_rfl)) rfl ?_
  exact ⟨er_, hb_ HB⟩
 ·rw [if_neg c2] at H
  have c2b0 : decide ((a0.size : Int) < 4) = false := decide_eq_false c2
  have c2b1 : decide (a0.size < 4) = false := decide_eq_false (by omega)
  clear c2
  by_cases c5 : 0 ≤ 4
  ·rw [if_pos c5] at H
   have c5b0 := eq_true c5
   try (have c5b0x := c5b0; simp only [ByteArray.size_extract, Nat.min_self] at c5b0x)
   have c5b1 : decide (0 ≤ 4) = true := decide_eq_true c5
   clear c5
   by_cases c6 : 4 ≤ (a0.size : Int)
   ·rw [if_pos c6] at H
    have c6b0 := eq_true c6
    try (have c6b0x := c6b0; simp only [ByteArray.size_extract, Nat.min_self] at c6b0x)
    have c6b1 : decide (4 ≤ (a0.size : Int)) = true := decide_eq_true c6
    clear c6
    replace H := Option.bind_eq_some_iff.mp H
    obtain ⟨⟨t164, t165⟩, A70, H⟩ := H
    replace H : ((code_Reader_Num.f t164 t165).bind fun bt167 => ((code_Reader_Err.f bt167.2.1 bt167.2.2).bind fun bt170 => (if bt170.1 = 0 then (if bt167.1 < 9 then (record_Read.j0 k a0 bt167.1 true) else (record_Read.j0 k a0 bt167.1 (decide (bt167.1 > 73)))) else (record_Read.j0 k a0 bt167.1 true)))) = some (r1, r2, r3, r4, r5, r6) := H
    have A7 := Aside0.mk A70
    clear A70
    replace H := Option.bind_eq_some_iff.mp H
    obtain ⟨⟨t167, t168, t169⟩, A80, H⟩ := H
    replace H : ((code_Reader_Err.f t168 t169).bind fun bt170 => (if bt170.1 = 0 then (if t167 < 9 then (record_Read.j0 k a0 t167 true) else (record_Read.j0 k a0 t167 (decide (t167 > 73)))) else (record_Read.j0 k a0 t167 true))) = some (r1, r2, r3, r4, r5, r6) := H
    have A8 := Aside0.mk A80
    clear A80
    have HC9 := Aside0.mk H
    clear H
    go_enter Try.func24, Try.ntmps24
    go_upto_region 5 with (first | ((with_reducible refine gate_dst (N := 2) rfl ?_); refine be_ (N := 2) (cs := #[.int .i64 0, .int .i64 0, .int .i64 0, .string (⟨#[]⟩ : ByteArray)]) (t := 24) (h := ?_); intro gb163 hg w10 hbox hb; have BK163 := Aside0.mk (hbox); have GW163 := gw_ HB hg; have GE163 := gw_ HB hg; replace HB := bs_ HB hb; clear hb hbox hg) | ((with_reducible refine gate_callee (f := 31) rfl ?_); refine ge_ (some 17) rfl rfl Try.func31 (by kernel_rfl) rfl #[.string (a0.extract 0 4)] rfl (h := ?_); (with_reducible refine (code_NewReader.calls (a0.extract 0 4) t164 t165 w _ ?side1 A7.out).mono ?_); (case side1 => repeat (first | (with_reducible first | exact HB.out | apply below_alloc | apply pw_below_drewN | apply below_drew1 | refine below_set ?_ GE163.out) | exact HB.out)); rintro e w11 ⟨g166, rfl, hi, hb, hb2⟩; refine ⟨_, rfl, ?_⟩; have HI166 := Aside0.mk (hi); have NB166_163 := Aside0.mk (IsS91.ne_blk hi (blk_below (g := gb163) (o := .cells #[.int .i64 0, .int .i64 0, .int .i64 0, .string (⟨#[]⟩ : ByteArray)] 24 (0, 0)) (bw_ BK163.out) hb2) (by decide)); have NB163_166 := Aside0.mk (Ne.symm (IsS91.ne_blk hi (blk_below (g := gb163) (o := .cells #[.int .i64 0, .int .i64 0, .int .i64 0, .string (⟨#[]⟩ : ByteArray)] 24 (0, 0)) (bw_ BK163.out) hb2) (by decide))); replace BK163 := Aside0.mk (blk_below (g := gb163) (o := .cells #[.int .i64 0, .int .i64 0, .int .i64 0, .string (⟨#[]⟩ : ByteArray)] 24 (0, 0)) (bw_ BK163.out) hb2); replace HB := Aside0.mk (hb); (try clear hb); (try clear hb2); (try clear hk); (try clear hi)) | ((with_reducible refine gate_callee (f := 54) rfl ?_); refine ge_ (some 19) rfl rfl Try.func54 (by kernel_rfl) rfl #[.pointer (some ⟨g166, 0, none⟩)] rfl (h := ?_); (with_reducible refine (code_Reader_Num.calls g166 t164 t165 t167 t168 t169 w _ ?side1 ?side2 A8.out).mono ?_); (case side1 => repeat (first | (with_reducible first | exact HI166.out | apply IsS91.alloc | apply IsS91.drewN | apply IsS91.drew | apply IsS91.set_0 | apply IsS91.set_1 | refine IsS91.far ?_ NB166_163.out _) | exact HI166.out)); (case side2 => repeat (first | (with_reducible first | exact HB.out | apply below_alloc | apply pw_below_drewN | apply below_drew1 | refine below_set ?_ (IsS91.ge HI166.out) | refine below_set ?_ GE163.out) | exact HB.out)); rintro e w12 ⟨rfl, hi, hb, hk⟩; refine ⟨_, rfl, ?_⟩; replace BK163 := Aside0.mk (KeepBut.blk hk (g' := gb163) (o := .cells #[.int .i64 0, .int .i64 0, .int .i64 0, .string (⟨#[]⟩ : ByteArray)] 24 (0, 0)) (bw_ BK163.out) NB163_166.out (by simp)); replace HB := Aside0.mk (hb); replace HI166 := Aside0.mk (hi); (try clear hb); (try clear hb2); (try clear hk); (try clear hi)))
    (try simp only [Act.put, List.setIfInBounds_toArray, List.set_cons_zero, List.set_cons_succ])
    go_cut [30] (fun v30 wc => ∃ (kq : Nat) (x30_8 : Bool), v30 = .bool x30_8 ∧ Aside0 (record_Read.j0 kq a0 t167 x30_8 = some (r1, r2, r3, r4, r5, r6)) ∧ Aside0 (kq ≤ k) ∧ Aside0 (wc.heap[gb163]? = some (.cells #[.int .i64 0, .int .i64 0, .int .i64 0, .string (⟨#[]⟩ : ByteArray)] 24 (0, 0))) ∧ Aside0 (Below w.heap.size w wc))
    case first =>
     have H := HC9.out
     clear HC9
     replace H := Option.bind_eq_some_iff.mp H
     obtain ⟨⟨t170, t171, t172⟩, A130, H⟩ := H
     replace H : (if t170 = 0 then (if t167 < 9 then (record_Read.j0 k a0 t167 true) else (record_Read.j0 k a0 t167 (decide (t167 > 73)))) else (record_Read.j0 k a0 t167 true)) = some (r1, r2, r3, r4, r5, r6) := H
     have A13 := Aside0.mk A130
     clear A130
     by_cases c14 : t170 = 0
     ·rw [if_pos c14] at H
      have c14b0 : (t170 == 0) = true := beq_iff_eq.mpr c14
      have c14b1 : (t170 != 0) = false := bne_eq_false_iff_eq.mpr c14
      clear c14
      (first | rw [c14b0] | (simp only [i64_w, i32_w]; rw [c14b0]) | skip)
      by_cases c15 : t167 < 9
      ·rw [if_pos c15] at H
       have c15b0 : decide (t167 < 9) = true := decide_eq_true c15
       clear c15
       have H' := Aside0.mk H
       clear H
       go_wp2_with (first | ((with_reducible refine gate_callee (f := 55) rfl ?_); refine ge_ (some 21) rfl rfl Try.func55 (by kernel_rfl) rfl #[.pointer (some ⟨g166, 0, none⟩)] rfl (h := ?_); (with_reducible refine (code_Reader_Err.calls g166 t168 t169 t170 t171 t172 w _ ?side1 ?side2 A13.out).mono ?_); (case side1 => repeat (first | (with_reducible first | exact HI166.out | apply IsS91.alloc | apply IsS91.drewN | apply IsS91.drew | apply IsS91.set_0 | apply IsS91.set_1 | refine IsS91.far ?_ NB166_163.out _) | exact HI166.out)); (case side2 => repeat (first | (with_reducible first | exact HB.out | apply below_alloc | apply pw_below_drewN | apply below_drew1 | refine below_set ?_ (IsS91.ge HI166.out) | refine below_set ?_ GE163.out) | exact HB.out)); rintro e w16 ⟨rfl, hi, hb, hk⟩; refine ⟨_, rfl, ?_⟩; replace BK163 := Aside0.mk (KeepBut.blk hk (g' := gb163) (o := .cells #[.int .i64 0, .int .i64 0, .int .i64 0, .string (⟨#[]⟩ : ByteArray)] 24 (0, 0)) (bw_ BK163.out) NB163_166.out (by simp)); replace HB := Aside0.mk (hb); replace HI166 := Aside0.mk (hi); (try clear hb); (try clear hb2); (try clear hk); (try clear hi)))
       go_meet
       case rel => exact ⟨_, (true), es_, H', ⟨by first | omega | exact Nat.le_refl _⟩, ⟨bw_ BK163.out⟩, ⟨by repeat (first | (with_reducible first | exact HB.out | apply below_alloc | apply pw_below_drewN | apply below_drew1 | refine below_set ?_ (IsS91.ge HI166.out) | refine below_set ?_ GE163.out) | exact HB.out)⟩⟩
      ·rw [if_neg c15] at H
       have c15b0 : decide (t167 < 9) = false := decide_eq_false c15
       clear c15
       have H' := Aside0.mk H
       clear H
       go_wp2_with (first | ((with_reducible refine gate_callee (f := 55) rfl ?_); refine ge_ (some 21) rfl rfl Try.func55 (by kernel_rfl) rfl #[.pointer (some ⟨g166, 0, none⟩)] rfl (h := ?_); (with_reducible refine (code_Reader_Err.calls g166 t168 t169 t170 t171 t172 w _ ?side1 ?side2 A13.out).mono ?_); (case side1 => repeat (first | (with_reducible first | exact HI166.out | apply IsS91.alloc | apply IsS91.drewN | apply IsS91.drew | apply IsS91.set_0 | apply IsS91.set_1 | refine IsS91.far ?_ NB166_163.out _) | exact HI166.out)); (case side2 => repeat (first | (with_reducible first | exact HB.out | apply below_alloc | apply pw_below_drewN | apply below_drew1 | refine below_set ?_ (IsS91.ge HI166.out) | refine below_set ?_ GE163.out) | exact HB.out)); rintro e w17 ⟨rfl, hi, hb, hk⟩; refine ⟨_, rfl, ?_⟩; replace BK163 := Aside0.mk (KeepBut.blk hk (g' := gb163) (o := .cells #[.int .i64 0, .int .i64 0, .int .i64 0, .string (⟨#[]⟩ : ByteArray)] 24 (0, 0)) (bw_ BK163.out) NB163_166.out (by simp)); replace HB := Aside0.mk (hb); replace HI166 := Aside0.mk (hi); (try clear hb); (try clear hb2); (try clear hk); (try clear hi)))
       go_meet
       case rel => exact ⟨_, (decide (t167 > 73)), es_, H', ⟨by first | omega | exact Nat.le_refl _⟩, ⟨bw_ BK163.out⟩, ⟨by repeat (first | (with_reducible first | exact HB.out | apply below_alloc | apply pw_below_drewN | apply below_drew1 | refine below_set ?_ (IsS91.ge HI166.out) | refine below_set ?_ GE163.out) | exact HB.out)⟩⟩
     ·rw [if_neg c14] at H
      have c14b0 : (t170 == 0) = false := beq_eq_false_iff_ne.mpr c14
      have c14b1 : (t170 != 0) = true := bne_iff_ne.mpr c14
      (first | rw [c14b0] | (simp only [i64_w, i32_w]; rw [c14b0]) | skip)
      have H' := Aside0.mk H
      clear H
      go_wp2_with (first | ((with_reducible refine gate_callee (f := 55) rfl ?_); refine ge_ (some 21) rfl rfl Try.func55 (by kernel_rfl) rfl #[.pointer (some ⟨g166, 0, none⟩)] rfl (h := ?_); (with_reducible refine (code_Reader_Err.calls g166 t168 t169 t170 t171 t172 w _ ?side1 ?side2 A13.out).mono ?_); (case side1 => repeat (first | (with_reducible first | exact HI166.out | apply IsS91.alloc | apply IsS91.drewN | apply IsS91.drew | apply IsS91.set_0 | apply IsS91.set_1 | refine IsS91.far ?_ NB166_163.out _) | exact HI166.out)); (case side2 => repeat (first | (with_reducible first | exact HB.out | apply below_alloc | apply pw_below_drewN | apply below_drew1 | refine below_set ?_ (IsS91.ge HI166.out) | refine below_set ?_ GE163.out) | exact HB.out)); rintro e w18 ⟨rfl, hi, hb, hk⟩; refine ⟨_, rfl, ?_⟩; replace BK163 := Aside0.mk (KeepBut.blk hk (g' := gb163) (o := .cells #[.int .i64 0, .int .i64 0, .int .i64 0, .string (⟨#[]⟩ : ByteArray)] 24 (0, 0)) (bw_ BK163.out) NB163_166.out (by simp)); replace HB := Aside0.mk (hb); replace HI166 := Aside0.mk (hi); (try clear hb); (try clear hb2); (try clear hk); (try clear hi)))
      go_meet
      case rel => exact ⟨_, (true), es_, H', ⟨by first | omega | exact Nat.le_refl _⟩, ⟨bw_ BK163.out⟩, ⟨by repeat (first | (with_reducible first | exact HB.out | apply below_alloc | apply pw_below_drewN | apply below_drew1 | refine below_set ?_ (IsS91.ge HI166.out) | refine below_set ?_ GE163.out) | exact HB.out)⟩⟩
    case rest =>
     clear HC9
     try clear c2
     try clear c2b0
     try clear c2b1
     try clear c5
     try clear c5b0
     try clear c5b1
     try clear c6
     try clear c6b0
     try clear c6b1
     obtain ⟨kq, x30_8, rfl, HA, HJ8, BK163, HB⟩ := hcut
     cases kq with
     | zero => exact absurd HA.out (by simp [record_Read.j0])
     | succ kj8 =>
      have H := HA.out
      clear HA
      simp only [record_Read.j0] at H
      by_cases c19 : x30_8 = true
      ·subst c19
       have H1 : (some (0, 0, 0, (⟨#[]⟩ : ByteArray), 0, 3)) = some (r1, r2, r3, r4, r5, r6) := by rw [if_pos rfl] at H; exact H
       clear H
       have H := H1
       clear H1
       simp only [Option.some.injEq, Prod.mk.injEq] at H
       obtain ⟨rfl, rfl, rfl, rfl, rfl, rfl⟩ := H
       obtain ⟨hcz20_0, hcz20_1, hcz20_2, hcz20_3, hfz20_0, hfz20_1, hfz20_2, hfz20_3⟩ := bc4_ BK163
       go_wp2
       refine bodyPost_ret (results_ctt rfl _ _ gb163 24 #[.int .i64 0, .int .i64 0, .int .i64 0, .string (⟨#[]⟩ : ByteArray)] (0, 0) _ rfl (bp_ BK163.out) Try.underlying24 rfl (by kernel_rfl)) rfl ?_
       exact ⟨er_, hb_ HB⟩
      ·replace c19 := Bool.eq_false_iff.mpr c19
       subst c19
       have H1 : (if (a0.size : Int) < (wrap64 (t167 + 8)) then (some (0, 0, 0, (⟨#[]⟩ : ByteArray), 0, 2)) else (if 0 ≤ (wrap64 (t167 + 8)) then (if (wrap64 (t167 + 8)) ≤ (a0.size : Int) then ((crc_Open.f kj8 (a0.extract 0 ((wrap64 (t167 + 8)) : Int).toNat)).bind fun bt173 => (if bt173.2 = 0 then (if 4 ≤ (bt173.1.size : Int) then ((record_within.f (bt173.1.extract 4 bt173.1.size)).bind fun bt175 => (if bt175.2.2.2.2 = true then (some (bt175.1, bt175.2.1, bt175.2.2.1, bt175.2.2.2.1, wrap64 (t167 + 8), 0)) else (some (0, 0, 0, (⟨#[]⟩ : ByteArray), 0, 3)))) else (none)) else (some (0, 0, 0, (⟨#[]⟩ : ByteArray), 0, bt173.2)))) else (none)) else (none))) = some (r1, r2, r3, r4, r5, r6) := by rw [if_neg (show ¬ (false = true) by decide)] at H; exact H
       clear H
       have H := H1
       clear H1
       by_cases c21 : (a0.size : Int) < (wrap64 (t167 + 8))
       ·rw [if_pos c21] at H
        have c21b0 : decide ((a0.size : Int) < (wrap64 (t167 + 8))) = true := decide_eq_true c21
        clear c21
        simp only [Option.some.injEq, Prod.mk.injEq] at H
        obtain ⟨rfl, rfl, rfl, rfl, rfl, rfl⟩ := H
        obtain ⟨hcz22_0, hcz22_1, hcz22_2, hcz22_3, hfz22_0, hfz22_1, hfz22_2, hfz22_3⟩ := bc4_ BK163
        go_wp2
        refine bodyPost_ret (results_ctt rfl _ _ gb163 24 #[.int .i64 0, .int .i64 0, .int .i64 0, .string (⟨#[]⟩ : ByteArray)] (0, 0) _ rfl (bp_ BK163.out) Try.underlying24 rfl (by kernel_rfl)) rfl ?_
        exact ⟨er_, hb_ HB⟩
       ·rw [if_neg c21] at H
        have c21b0 : decide ((a0.size : Int) < (wrap64 (t167 + 8))) = false := decide_eq_false c21
        clear c21
        obtain ⟨ji23, hji23⟩ : ∃ j_ : Int, (wrap64 (t167 + 8)) = j_ := ⟨_, rfl⟩
        replace H : (if 0 ≤ (ji23) then (if (ji23) ≤ (a0.size : Int) then ((crc_Open.f kj8 (a0.extract 0 ((ji23) : Int).toNat)).bind fun bt173 => (if bt173.2 = 0 then (if 4 ≤ (bt173.1.size : Int) then ((record_within.f (bt173.1.extract 4 bt173.1.size)).bind fun bt175 => (if bt175.2.2.2.2 = true then (some (bt175.1, bt175.2.1, bt175.2.2.1, bt175.2.2.2.1, ji23, 0)) else (some (0, 0, 0, (⟨#[]⟩ : ByteArray), 0, 3)))) else (none)) else (some (0, 0, 0, (⟨#[]⟩ : ByteArray), 0, bt173.2)))) else (none)) else (none)) = some (r1, r2, r3, r4, r5, r6) := by first | (rw [hji23] at H; exact H) | (simp only [hji23] at H ⊢; exact H)
        (try rw [hji23] at c21b0)
        have hji23w : (IntKind.i64.wrap (t167 + 8)) = ji23 := (i64_w _).trans hji23
        try (have hji23x := hji23; simp only [ByteArray.size_extract, Nat.min_self] at hji23x)
        by_cases c24 : 0 ≤ (ji23)
        ·rw [if_pos c24] at H
         have c24b0 := eq_true c24
         try (have c24b0x := c24b0; simp only [ByteArray.size_extract, Nat.min_self] at c24b0x)
         have c24b1 : decide (0 ≤ (ji23)) = true := decide_eq_true c24
         clear c24
         by_cases c25 : (ji23) ≤ (a0.size : Int)
         ·rw [if_pos c25] at H
          have c25b0 := eq_true c25
          try (have c25b0x := c25b0; simp only [ByteArray.size_extract, Nat.min_self] at c25b0x)
          have c25b1 : decide ((ji23) ≤ (a0.size : Int)) = true := decide_eq_true c25
          clear c25
          replace H := Option.bind_eq_some_iff.mp H
          obtain ⟨⟨t173, t174⟩, A260, H⟩ := H
          replace H : (if t174 = 0 then (if 4 ≤ (t173.size : Int) then ((record_within.f (t173.extract 4 t173.size)).bind fun bt175 => (if bt175.2.2.2.2 = true then (some (bt175.1, bt175.2.1, bt175.2.2.1, bt175.2.2.2.1, ji23, 0)) else (some (0, 0, 0, (⟨#[]⟩ : ByteArray), 0, 3)))) else (none)) else (some (0, 0, 0, (⟨#[]⟩ : ByteArray), 0, t174))) = some (r1, r2, r3, r4, r5, r6) := H
          have A26 := Aside0.mk A260
          clear A260
          by_cases c27 : t174 = 0
          ·rw [if_pos c27] at H
           have c27b0 : (t174 == 0) = true := beq_iff_eq.mpr c27
           have c27b1 : (t174 != 0) = false := bne_eq_false_iff_eq.mpr c27
           clear c27
           by_cases c28 : 4 ≤ (t173.size : Int)
           ·rw [if_pos c28] at H
            have c28b0 := eq_true c28
            try (have c28b0x := c28b0; simp only [ByteArray.size_extract, Nat.min_self] at c28b0x)
            have c28b1 : decide (4 ≤ (t173.size : Int)) = true := decide_eq_true c28
            clear c28
            replace H := Option.bind_eq_some_iff.mp H
            obtain ⟨⟨t175, t176, t177, t178, t179⟩, A290, H⟩ := H
            replace H : (if t179 = true then (some (t175, t176, t177, t178, ji23, 0)) else (some (0, 0, 0, (⟨#[]⟩ : ByteArray), 0, 3))) = some (r1, r2, r3, r4, r5, r6) := H
            have A29 := Aside0.mk A290
            clear A290
            by_cases c30 : t179 = true
            ·subst c30
             have H1 : (some (t175, t176, t177, t178, ji23, 0)) = some (r1, r2, r3, r4, r5, r6) := by rw [if_pos rfl] at H; exact H
             clear H
             have H := H1
             clear H1
             simp only [Option.some.injEq, Prod.mk.injEq] at H
             obtain ⟨rfl, rfl, rfl, rfl, rfl, rfl⟩ := H
             go_wp2_with (first | ((with_reducible refine gate_callee (f := 59) rfl ?_); refine goesL_ (some 43) rfl rfl Try.func59 (by kernel_rfl) rfl #[.string (a0.extract 0 ((ji23) : Int).toNat)] rfl (by (try simp only [List.map_toArray, List.map_cons, List.map_nil]); first | done | (simp only [hji23]; rfl) | rfl | (simp only [List.length_drop, List.length_take]; rfl)) ?_; (with_reducible refine (crc_Open.calls kj8 (a0.extract 0 ((ji23) : Int).toNat) t173 t174 _ A26.out).mono ?_); rintro e w31 ⟨rfl, hb⟩; refine ⟨_, rfl, ?_⟩; replace BK163 := bb_ BK163 hb; replace HB := bs_ HB hb; (try clear hb); (try clear hb2); (try clear hk); (try clear hi)) | ((with_reducible refine gate_callee (f := 60) rfl ?_); refine ge_ (some 53) rfl rfl Try.func60 (by kernel_rfl) rfl #[.string (t173.extract 4 t173.size)] rfl (h := ?_); (with_reducible refine (record_within.calls (t173.extract 4 t173.size) t175 t176 t177 t178 true _ A29.out).mono ?_); rintro e w32 ⟨rfl, hb⟩; refine ⟨_, rfl, ?_⟩; replace BK163 := bb_ BK163 hb; replace HB := bs_ HB hb; (try clear hb); (try clear hb2); (try clear hk); (try clear hi)) | ((with_reducible refine gate_dst (N := 9) rfl ?_); refine be_ (N := 9) (cs := #[.int .i64 0, .int .i64 0, .int .i64 0, .string (⟨#[]⟩ : ByteArray)]) (t := 24) (h := ?_); intro gb180 hg w33 hbox hb; have BK180 := Aside0.mk (hbox); have GW180 := gw_ HB hg; have GE180 := gw_ HB hg; have NB163_180 := ne_ BK163 hg; have NB180_163 := en_ BK163 hg; replace BK163 := bb_ BK163 hb; replace HB := bs_ HB hb; clear hb hbox hg; have hnb34 := NB180_163.out; have hnc34 := NB163_180.out; obtain ⟨hcz35_0, hcz35_1, hcz35_2, hcz35_3, hfz35_0, hfz35_1, hfz35_2, hfz35_3⟩ := bc4_ BK180; obtain ⟨hcz36_0, hcz36_1, hcz36_2, hcz36_3, hfz36_0, hfz36_1, hfz36_2, hfz36_3⟩ := bc4_ BK163))
             refine bodyPost_ret (results_ctt rfl _ _ gb163 24 #[.int .i64 t175, .int .i64 t176, .int .i64 t177, .string t178] (0, 0) _ rfl (bp_ BK163.out) Try.underlying24 rfl (by kernel_rfl)) rfl ?_
             exact ⟨by first | rfl | (simp [errW_none, errW_some] <;> rfl) | (simp only [← hji23]; first | rfl | (simp [errW_none, errW_some] <;> rfl)) | (simp [*, errW_none, errW_some] <;> rfl), hb_ HB⟩
            ·replace c30 := Bool.eq_false_iff.mpr c30
             subst c30
             have H1 : (some (0, 0, 0, (⟨#[]⟩ : ByteArray), 0, 3)) = some (r1, r2, r3, r4, r5, r6) := by rw [if_neg (show ¬ (false = true) by decide)] at H; exact H
             clear H
             have H := H1
             clear H1
             simp only [Option.some.injEq, Prod.mk.injEq] at H
             obtain ⟨rfl, rfl, rfl, rfl, rfl, rfl⟩ := H
             go_wp2_with (first | ((with_reducible refine gate_callee (f := 59) rfl ?_); refine goesL_ (some 43) rfl rfl Try.func59 (by kernel_rfl) rfl #[.string (a0.extract 0 ((ji23) : Int).toNat)] rfl (by (try simp only [List.map_toArray, List.map_cons, List.map_nil]); first | done | (simp only [hji23]; rfl) | rfl | (simp only [List.length_drop, List.length_take]; rfl)) ?_; (with_reducible refine (crc_Open.calls kj8 (a0.extract 0 ((ji23) : Int).toNat) t173 t174 _ A26.out).mono ?_); rintro e w37 ⟨rfl, hb⟩; refine ⟨_, rfl, ?_⟩; replace BK163 := bb_ BK163 hb; replace HB := bs_ HB hb; (try clear hb); (try clear hb2); (try clear hk); (try clear hi)) | ((with_reducible refine gate_callee (f := 60) rfl ?_); refine ge_ (some 53) rfl rfl Try.func60 (by kernel_rfl) rfl #[.string (t173.extract 4 t173.size)] rfl (h := ?_); (with_reducible refine (record_within.calls (t173.extract 4 t173.size) t175 t176 t177 t178 false _ A29.out).mono ?_); rintro e w38 ⟨rfl, hb⟩; refine ⟨_, rfl, ?_⟩; replace BK163 := bb_ BK163 hb; replace HB := bs_ HB hb; (try clear hb); (try clear hb2); (try clear hk); (try clear hi)) | ((with_reducible refine gate_dst (N := 9) rfl ?_); refine be_ (N := 9) (cs := #[.int .i64 0, .int .i64 0, .int .i64 0, .string (⟨#[]⟩ : ByteArray)]) (t := 24) (h := ?_); intro gb180 hg w39 hbox hb; have BK180 := Aside0.mk (hbox); have GW180 := gw_ HB hg; have GE180 := gw_ HB hg; have NB163_180 := ne_ BK163 hg; have NB180_163 := en_ BK163 hg; replace BK163 := bb_ BK163 hb; replace HB := bs_ HB hb; clear hb hbox hg; have hnb40 := NB180_163.out; have hnc40 := NB163_180.out; obtain ⟨hcz41_0, hcz41_1, hcz41_2, hcz41_3, hfz41_0, hfz41_1, hfz41_2, hfz41_3⟩ := bc4_ BK180; obtain ⟨hcz42_0, hcz42_1, hcz42_2, hcz42_3, hfz42_0, hfz42_1, hfz42_2, hfz42_3⟩ := bc4_ BK163))
             refine bodyPost_ret (results_ctt rfl _ _ gb163 24 #[.int .i64 0, .int .i64 0, .int .i64 0, .string (⟨#[]⟩ : ByteArray)] (0, 0) _ rfl (bp_ BK163.out) Try.underlying24 rfl (by kernel_rfl)) rfl ?_
             exact ⟨by first | rfl | (simp [errW_none, errW_some] <;> rfl) | (simp only [← hji23]; first | rfl | (simp [errW_none, errW_some] <;> rfl)) | (simp [*, errW_none, errW_some] <;> rfl), hb_ HB⟩
           ·rw [if_neg c28] at H
            exact absurd H (by simp)
          ·rw [if_neg c27] at H
           have c27b0 : (t174 == 0) = false := beq_eq_false_iff_ne.mpr c27
           have c27b1 : (t174 != 0) = true := bne_iff_ne.mpr c27
           simp only [Option.some.injEq, Prod.mk.injEq] at H
           obtain ⟨rfl, rfl, rfl, rfl, rfl, rfl⟩ := H
           go_wp2_with (first | ((with_reducible refine gate_callee (f := 59) rfl ?_); refine goesL_ (some 43) rfl rfl Try.func59 (by kernel_rfl) rfl #[.string (a0.extract 0 ((ji23) : Int).toNat)] rfl (by (try simp only [List.map_toArray, List.map_cons, List.map_nil]); first | done | (simp only [hji23]; rfl) | rfl | (simp only [List.length_drop, List.length_take]; rfl)) ?_; (with_reducible refine (crc_Open.calls kj8 (a0.extract 0 ((ji23) : Int).toNat) t173 t174 _ A26.out).mono ?_); rintro e w43 ⟨rfl, hb⟩; refine ⟨_, rfl, ?_⟩; replace BK163 := bb_ BK163 hb; replace HB := bs_ HB hb; (try clear hb); (try clear hb2); (try clear hk); (try clear hi); obtain ⟨hcz44_0, hcz44_1, hcz44_2, hcz44_3, hfz44_0, hfz44_1, hfz44_2, hfz44_3⟩ := bc4_ BK163))
           refine bodyPost_ret (results_ctt rfl _ _ gb163 24 #[.int .i64 0, .int .i64 0, .int .i64 0, .string (⟨#[]⟩ : ByteArray)] (0, 0) _ rfl (bp_ BK163.out) Try.underlying24 rfl (by kernel_rfl)) rfl ?_
           exact ⟨by first | rfl | (simp [errW_none, errW_some] <;> rfl) | (simp only [← hji23]; first | rfl | (simp [errW_none, errW_some] <;> rfl)) | (simp [*, errW_none, errW_some] <;> rfl), hb_ HB⟩
         ·rw [if_neg c25] at H
          exact absurd H (by simp)
        ·rw [if_neg c24] at H
         exact absurd H (by simp)
   ·rw [if_neg c6] at H
    exact absurd H (by simp)
  ·rw [if_neg c5] at H
   exact absurd H (by simp)

/-! ### calamusref33_Right: function 21 -/
def calamusref33_Right.f (a0_0 : Int) (a0_1 : Int) (a0_2 : Int) (a0_3 : ByteArray) : Option (Bool) := if a0_0 ≥ 1 then (if a0_0 ≤ 2 then (if a0_1 ≥ 1 then (if a0_1 ≤ 2147483647 then (if a0_2 ≥ 0 then (if a0_2 ≤ 2147483647 then (some (decide ((a0_3.size : Int) ≤ 64))) else (some false)) else (some false)) else (some false)) else (some false)) else (some false)) else (some false)
set_option maxHeartbeats 8000000 in
set_option maxRecDepth 100000 in
theorem calamusref33_Right.calls (a0_0 : Int) (a0_1 : Int) (a0_2 : Int) (a0_3 : ByteArray) (r : Bool) (w : World) (h : calamusref33_Right.f a0_0 a0_1 a0_2 a0_3 = some r) :
  Calls Try.prog 21 #[.agg #[.int .i64 a0_0, .int .i64 a0_1, .int .i64 a0_2, .string a0_3]] w fun e w' => e = .returned (.bool r) ∧ Below w.heap.size w w' := by
 have hu26 := Try.underlying26
 have HB := Aside0.mk (Below.refl w.heap.size w)
 have H : (if a0_0 ≥ 1 then (if a0_0 ≤ 2 then (if a0_1 ≥ 1 then (if a0_1 ≤ 2147483647 then (if a0_2 ≥ 0 then (if a0_2 ≤ 2147483647 then (some (decide ((a0_3.size : Int) ≤ 64))) else (some false)) else (some false)) else (some false)) else (some false)) else (some false)) else (some false)) = some r := h
 clear h
 by_cases c2 : a0_0 ≥ 1
 ·rw [if_pos c2] at H
  have c2b0 : decide (1 ≤ a0_0) = true := decide_eq_true c2
  clear c2
  by_cases c3 : a0_0 ≤ 2
  ·rw [if_pos c3] at H
   have c3b0 : decide (a0_0 ≤ 2) = true := decide_eq_true c3
   clear c3
   by_cases c4 : a0_1 ≥ 1
   ·rw [if_pos c4] at H
    have c4b0 : decide (1 ≤ a0_1) = true := decide_eq_true c4
    clear c4
    by_cases c5 : a0_1 ≤ 2147483647
    ·rw [if_pos c5] at H
     have c5b0 : decide (a0_1 ≤ 2147483647) = true := decide_eq_true c5
     clear c5
     by_cases c6 : a0_2 ≥ 0
     ·rw [if_pos c6] at H
      have c6b0 : decide (0 ≤ a0_2) = true := decide_eq_true c6
      clear c6
      by_cases c7 : a0_2 ≤ 2147483647
      ·rw [if_pos c7] at H
       have c7b0 : decide (a0_2 ≤ 2147483647) = true := decide_eq_true c7
       clear c7
       obtain rfl := Option.some.inj H
       go_enter Try.func21, Try.ntmps21
       go_wp2_with (first | ((with_reducible refine gate_dst (N := 1) rfl ?_); (try (refine gate_guard (by rfl) ?_; dsimp only)); refine be_ (N := 1) (cs := #[.int .i64 a0_0, .int .i64 a0_1, .int .i64 a0_2, .string a0_3]) (t := 26) (h := ?_); intro gb181 hg w8 hbox hb; have BK181 := Aside0.mk (hbox); have GW181 := gw_ HB hg; have GE181 := gw_ HB hg; replace HB := bs_ HB hb; clear hb hbox hg; obtain ⟨hcz9_0, hcz9_1, hcz9_2, hcz9_3, hfz9_0, hfz9_1, hfz9_2, hfz9_3⟩ := bc4_ BK181))
       go_ret
       exact ⟨er_, hb_ HB⟩
      ·rw [if_neg c7] at H
       have c7b0 : decide (a0_2 ≤ 2147483647) = false := decide_eq_false c7
       clear c7
       obtain rfl := Option.some.inj H
       go_enter Try.func21, Try.ntmps21
       go_wp2_with (first | ((with_reducible refine gate_dst (N := 1) rfl ?_); (try (refine gate_guard (by rfl) ?_; dsimp only)); refine be_ (N := 1) (cs := #[.int .i64 a0_0, .int .i64 a0_1, .int .i64 a0_2, .string a0_3]) (t := 26) (h := ?_); intro gb181 hg w10 hbox hb; have BK181 := Aside0.mk (hbox); have GW181 := gw_ HB hg; have GE181 := gw_ HB hg; replace HB := bs_ HB hb; clear hb hbox hg; obtain ⟨hcz11_0, hcz11_1, hcz11_2, hcz11_3, hfz11_0, hfz11_1, hfz11_2, hfz11_3⟩ := bc4_ BK181))
       go_ret
       exact ⟨er_, hb_ HB⟩
     ·rw [if_neg c6] at H
      have c6b0 : decide (0 ≤ a0_2) = false := decide_eq_false c6
      clear c6
      obtain rfl := Option.some.inj H
      go_enter Try.func21, Try.ntmps21
      go_wp2_with (first | ((with_reducible refine gate_dst (N := 1) rfl ?_); (try (refine gate_guard (by rfl) ?_; dsimp only)); refine be_ (N := 1) (cs := #[.int .i64 a0_0, .int .i64 a0_1, .int .i64 a0_2, .string a0_3]) (t := 26) (h := ?_); intro gb181 hg w12 hbox hb; have BK181 := Aside0.mk (hbox); have GW181 := gw_ HB hg; have GE181 := gw_ HB hg; replace HB := bs_ HB hb; clear hb hbox hg; obtain ⟨hcz13_0, hcz13_1, hcz13_2, hcz13_3, hfz13_0, hfz13_1, hfz13_2, hfz13_3⟩ := bc4_ BK181))
      go_ret
      exact ⟨er_, hb_ HB⟩
    ·rw [if_neg c5] at H
     have c5b0 : decide (a0_1 ≤ 2147483647) = false := decide_eq_false c5
     clear c5
     obtain rfl := Option.some.inj H
     go_enter Try.func21, Try.ntmps21
     go_wp2_with (first | ((with_reducible refine gate_dst (N := 1) rfl ?_); (try (refine gate_guard (by rfl) ?_; dsimp only)); refine be_ (N := 1) (cs := #[.int .i64 a0_0, .int .i64 a0_1, .int .i64 a0_2, .string a0_3]) (t := 26) (h := ?_); intro gb181 hg w14 hbox hb; have BK181 := Aside0.mk (hbox); have GW181 := gw_ HB hg; have GE181 := gw_ HB hg; replace HB := bs_ HB hb; clear hb hbox hg; obtain ⟨hcz15_0, hcz15_1, hcz15_2, hcz15_3, hfz15_0, hfz15_1, hfz15_2, hfz15_3⟩ := bc4_ BK181))
     go_ret
     exact ⟨er_, hb_ HB⟩
   ·rw [if_neg c4] at H
    have c4b0 : decide (1 ≤ a0_1) = false := decide_eq_false c4
    clear c4
    obtain rfl := Option.some.inj H
    go_enter Try.func21, Try.ntmps21
    go_wp2_with (first | ((with_reducible refine gate_dst (N := 1) rfl ?_); (try (refine gate_guard (by rfl) ?_; dsimp only)); refine be_ (N := 1) (cs := #[.int .i64 a0_0, .int .i64 a0_1, .int .i64 a0_2, .string a0_3]) (t := 26) (h := ?_); intro gb181 hg w16 hbox hb; have BK181 := Aside0.mk (hbox); have GW181 := gw_ HB hg; have GE181 := gw_ HB hg; replace HB := bs_ HB hb; clear hb hbox hg; obtain ⟨hcz17_0, hcz17_1, hcz17_2, hcz17_3, hfz17_0, hfz17_1, hfz17_2, hfz17_3⟩ := bc4_ BK181))
    go_ret
    exact ⟨er_, hb_ HB⟩
  ·rw [if_neg c3] at H
   have c3b0 : decide (a0_0 ≤ 2) = false := decide_eq_false c3
   clear c3
   obtain rfl := Option.some.inj H
   go_enter Try.func21, Try.ntmps21
   go_wp2_with (first | ((with_reducible refine gate_dst (N := 1) rfl ?_); (try (refine gate_guard (by rfl) ?_; dsimp only)); refine be_ (N := 1) (cs := #[.int .i64 a0_0, .int .i64 a0_1, .int .i64 a0_2, .string a0_3]) (t := 26) (h := ?_); intro gb181 hg w18 hbox hb; have BK181 := Aside0.mk (hbox); have GW181 := gw_ HB hg; have GE181 := gw_ HB hg; replace HB := bs_ HB hb; clear hb hbox hg; obtain ⟨hcz19_0, hcz19_1, hcz19_2, hcz19_3, hfz19_0, hfz19_1, hfz19_2, hfz19_3⟩ := bc4_ BK181))
   go_ret
   exact ⟨er_, hb_ HB⟩
 ·rw [if_neg c2] at H
  have c2b0 : decide (1 ≤ a0_0) = false := decide_eq_false c2
  clear c2
  obtain rfl := Option.some.inj H
  go_enter Try.func21, Try.ntmps21
  go_wp2_with (first | ((with_reducible refine gate_dst (N := 1) rfl ?_); (try (refine gate_guard (by rfl) ?_; dsimp only)); refine be_ (N := 1) (cs := #[.int .i64 a0_0, .int .i64 a0_1, .int .i64 a0_2, .string a0_3]) (t := 26) (h := ?_); intro gb181 hg w20 hbox hb; have BK181 := Aside0.mk (hbox); have GW181 := gw_ HB hg; have GE181 := gw_ HB hg; replace HB := bs_ HB hb; clear hb hbox hg; obtain ⟨hcz21_0, hcz21_1, hcz21_2, hcz21_3, hfz21_0, hfz21_1, hfz21_2, hfz21_3⟩ := bc4_ BK181))
  go_ret
  exact ⟨er_, hb_ HB⟩

/-! ### calamusref02_Bytes: function 84 -/
def calamusref02_Bytes.f (a0 : Int) : Option (ByteArray) := some (strOfNums (([(Int.tmod a0 256) % 256, (Int.tmod (wrap64 (Int.tdiv a0 256)) 256) % 256, (Int.tmod (wrap64 (Int.tdiv a0 65536)) 256) % 256, (Int.tmod (wrap64 (Int.tdiv a0 16777216)) 256) % 256] : List Int)))
set_option maxHeartbeats 8000000 in
set_option maxRecDepth 100000 in
theorem calamusref02_Bytes.calls (a0 : Int) (r : ByteArray) (w : World) (h : calamusref02_Bytes.f a0 = some r) :
  Calls Try.prog 84 #[.int .i64 a0] w fun e w' => e = .returned (.string r) ∧ Below w.heap.size w w' := by
 have HB := Aside0.mk (Below.refl w.heap.size w)
 have H : (some (strOfNums (([(Int.tmod a0 256) % 256, (Int.tmod (wrap64 (Int.tdiv a0 256)) 256) % 256, (Int.tmod (wrap64 (Int.tdiv a0 65536)) 256) % 256, (Int.tmod (wrap64 (Int.tdiv a0 16777216)) 256) % 256] : List Int)))) = some r := h
 clear h
 obtain ⟨y182, hy182⟩ : ∃ y_ : List Int, y_ = (([(Int.tmod a0 256) % 256, (Int.tmod (wrap64 (Int.tdiv a0 256)) 256) % 256, (Int.tmod (wrap64 (Int.tdiv a0 65536)) 256) % 256, (Int.tmod (wrap64 (Int.tdiv a0 16777216)) 256) % 256] : List Int)) := ⟨_, rfl⟩
 replace H : (some (strOfNums y182)) = some r := th_ H hy182
 have Ny182 := Aside0.mk hy182
 clear hy182
 obtain rfl := Option.some.inj H
 go_enter Try.func84, Try.ntmps84
 go_wp2_with (first | ((with_reducible refine gate_dst (N := 18) rfl ?_); refine Kd.R_lit (Kd.int .u8) _ 5 ?hg (N := 18) ?hd (xs := ([(Int.tmod a0 256) % 256, (Int.tmod (wrap64 (Int.tdiv a0 256)) 256) % 256, (Int.tmod (wrap64 (Int.tdiv a0 65536)) 256) % 256, (Int.tmod (wrap64 (Int.tdiv a0 16777216)) 256) % 256] : List Int)) (inner := [.int .u8 ((Int.tmod a0 256) % 256), .int .u8 ((Int.tmod (wrap64 (Int.tdiv a0 256)) 256) % 256), .int .u8 ((Int.tmod (wrap64 (Int.tdiv a0 65536)) 256) % 256), .int .u8 ((Int.tmod (wrap64 (Int.tdiv a0 16777216)) 256) % 256)]) (ok := fun _ => True) (okp := fun _ => True) ?hr ?hp (fun _ hk => hk) trivial (Below.refl _ _) (Nat.le_refl _) (by simp) ?_; (case hd => rfl); (case hg => rfl); (case hr => first | (go_simp; done) | (go_simp; rfl)); (case hp => exact (Reps.one (show Kd.M (Kd.int .u8) _ _ _ ((Int.tmod a0 256) % 256) [.int .u8 ((Int.tmod a0 256) % 256)] from rfl) (Reps.one (show Kd.M (Kd.int .u8) _ _ _ ((Int.tmod (wrap64 (Int.tdiv a0 256)) 256) % 256) [.int .u8 ((Int.tmod (wrap64 (Int.tdiv a0 256)) 256) % 256)] from rfl) (Reps.one (show Kd.M (Kd.int .u8) _ _ _ ((Int.tmod (wrap64 (Int.tdiv a0 65536)) 256) % 256) [.int .u8 ((Int.tmod (wrap64 (Int.tdiv a0 65536)) 256) % 256)] from rfl) (Reps.one (show Kd.M (Kd.int .u8) _ _ _ ((Int.tmod (wrap64 (Int.tdiv a0 16777216)) 256) % 256) [.int .u8 ((Int.tmod (wrap64 (Int.tdiv a0 16777216)) 256) % 256)] from rfl) (Reps.none _ _)))))); intro v183 w2 ho3 hb hg_ hnew_; clear hg_ hnew_; (first | rw [← Ny182.out] at ho3 | (simp only [Int.reduceToNat] at ho3; rw [← Ny182.out] at ho3)); have HO184 := Aside0.mk (Kd.R_lower ho3 (below_size (hb_ HB))); replace HB := bs_ HB hb; clear hb ho3; have hcv4 := own_string (P := Try.prog) Try.underlying84 Try.underlying5 Try.underlying9 (Kd.own_of_R HO184.out)))
 go_ret
 exact ⟨er_, hb_ HB⟩

/-! ### calamusref02_step: function 118 -/
def calamusref02_step.l0 : Nat → Int → Int → Option (Int)
 | 0, _, _ => none
 | k + 1, x0, x3 => if x3 < 8 then (if (Int.tmod x0 2) = 1 then (calamusref02_step.l0 k (Go.bits .xor .i64 (wrap64 (Int.tdiv x0 2)) 3988292384) (wrap64 (x3 + 1))) else (calamusref02_step.l0 k (wrap64 (Int.tdiv x0 2)) (wrap64 (x3 + 1)))) else (some x0)
def calamusref02_step.f (k : Nat) (a0 : Int) : Option (Int) := calamusref02_step.l0 k a0 0
theorem calamusref02_step.mono_l : ∀ k, (∀ y0 y1, LeO (calamusref02_step.l0 k y0 y1) (calamusref02_step.l0 (k + 1) y0 y1))
 | 0 => fun _ _ r h => by simp [calamusref02_step.l0] at h
 | k + 1 => by
  have ih0 := calamusref02_step.mono_l k
  ·intro y0 y1
   unfold calamusref02_step.l0
   repeat' first
   | (with_reducible exact ih0 _ _)
   | (with_reducible exact LeO.refl _)
   | (with_reducible exact LeO.none _)
   | (with_reducible refine LeO.ite ?_ ?_)
   | (with_reducible refine LeO.bind ?_ (fun _ => ?_))
   | exact ih0 _ _
   | exact LeO.none _
   | refine LeO.ite ?_ ?_
   | refine LeO.bind ?_ (fun _ => ?_)
theorem calamusref02_step.mono : ∀ a0 k, LeO (calamusref02_step.f k a0) (calamusref02_step.f (k + 1) a0) := by
 intro a0 k
 have ih0 := calamusref02_step.mono_l k
 unfold calamusref02_step.f
 repeat' first
   | (with_reducible exact ih0 _ _)
   | (with_reducible exact LeO.refl _)
   | (with_reducible exact LeO.none _)
   | (with_reducible refine LeO.ite ?_ ?_)
   | (with_reducible refine LeO.bind ?_ (fun _ => ?_))
   | exact ih0 _ _
   | exact LeO.none _
   | refine LeO.ite ?_ ?_
   | refine LeO.bind ?_ (fun _ => ?_)
set_option maxHeartbeats 8000000 in
set_option maxRecDepth 100000 in
theorem calamusref02_step.calls (k : Nat) (a0 : Int) (r : Int) (w : World) (h : calamusref02_step.f k a0 = some r) :
  Calls Try.prog 118 #[.int .i64 a0] w fun e w' => e = .returned (.int .i64 r) ∧ Drawn0 w w' := by
 have H : (calamusref02_step.l0 k a0 0) = some r := h
 clear h
 have H' := Aside0.mk H
 clear H
 go_enter Try.func118, Try.ntmps118
 go_wp2
 go_loopg [0, 3] k (fun kq v0 v3 w' => ∃ (x0_1 : Int) (x3_1 : Int), v0 = .int .i64 x0_1 ∧ v3 = .int .i64 x3_1 ∧ Aside0 (calamusref02_step.l0 kq x0_1 x3_1 = some r) ∧ Aside0 (kq ≤ k) ∧ Drawn0 w w')
 case atStart => exact ⟨(a0), (0), es_, es_, H', ⟨Nat.le_refl _⟩, by repeat (first | exact Drawn0.refl _ | apply Drawn0.step)⟩
 case round =>
  clear H'
  obtain ⟨x0_1, x3_1, rfl, rfl, HA, HK1, ⟨m1, rfl⟩⟩ := hrel
  cases gk with
  | zero => exact absurd HA.out (by simp [calamusref02_step.l0])
  | succ k1 =>
   have H := HA.out
   clear HA
   simp only [calamusref02_step.l0] at H
   by_cases c2 : x3_1 < 8
   ·rw [if_pos c2] at H
    have c2b0 : decide (x3_1 < 8) = true := decide_eq_true c2
    clear c2
    by_cases c3 : (Int.tmod x0_1 2) = 1
    ·rw [if_pos c3] at H
     have c3b0 : ((Int.tmod x0_1 2) == 1) = true := beq_iff_eq.mpr c3
     have c3b1 : ((Int.tmod x0_1 2) != 1) = false := bne_eq_false_iff_eq.mpr c3
     clear c3
     have H' := Aside0.mk H
     clear H
     go_wp2
     go_roundg k1
     case measure => have := HK1.out; omega
     case rel => exact ⟨(Go.bits .xor .i64 (wrap64 (Int.tdiv x0_1 2)) 3988292384), (wrap64 (x3_1 + 1)), es_, es_, H', ⟨by have := HK1.out; omega⟩, by repeat (first | exact Drawn0.refl _ | apply Drawn0.step)⟩
    ·rw [if_neg c3] at H
     have c3b0 : ((Int.tmod x0_1 2) == 1) = false := beq_eq_false_iff_ne.mpr c3
     have c3b1 : ((Int.tmod x0_1 2) != 1) = true := bne_iff_ne.mpr c3
     have H' := Aside0.mk H
     clear H
     go_wp2
     go_roundg k1
     case measure => have := HK1.out; omega
     case rel => exact ⟨(wrap64 (Int.tdiv x0_1 2)), (wrap64 (x3_1 + 1)), es_, es_, H', ⟨by have := HK1.out; omega⟩, by repeat (first | exact Drawn0.refl _ | apply Drawn0.step)⟩
   ·rw [if_neg c2] at H
    have c2b0 : decide (x3_1 < 8) = false := decide_eq_false c2
    clear c2
    obtain rfl := Option.some.inj H
    go_wp2
    go_ret
    exact ⟨by first | rfl | (simp; done) | (simp [*]; done), by repeat (first | exact Drawn0.refl _ | apply Drawn0.step)⟩

end Go.Proofs.Ytealbonfaebikaa.PRecordReads
