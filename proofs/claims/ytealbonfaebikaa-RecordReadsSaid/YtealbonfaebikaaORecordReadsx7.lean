/- Of the law calamus/calamuslaw33.RecordReads: each function as a plain Lean function, with a proof that the call comes to it; the row. By wip/tpl/own_print.py. Conditions: none but the row's own. -/
import Derived.Test.YtealbonfaebikaaORecordReadsx0
import Derived.Test.YtealbonfaebikaaORecordReadsx5
import Derived.Test.YtealbonfaebikaaORecordReadsx6
namespace Go.Proofs.Ytealbonfaebikaa.PRecordReads
open Go.RowKit Go.Proofs.YtealbonfaebikaaW.PrintWords Go.Proofs.YtealbonfaebikaaW.PrintLast Go.Proofs.YtealbonfaebikaaW.PrintMore
attribute [local go_sem] max2_int min2_int max_two min_two max_three min_three max_four min_four   -- for this text's walks alone
set_option linter.unusedVariables false
set_option linter.unusedSimpArgs false

/-! ### calamusref33_Read: function 25 -/
def calamusref33_Read.j0 : Nat → ByteArray → Int → Bool → Option (Int × Int × Int × ByteArray × Int × Int)
 | 0, _, _, _ => none
 | k + 1, x0, x5, x37 => if x37 = true then (some (0, 0, 0, (⟨#[]⟩ : ByteArray), 0, 3)) else (if (x0.size : Int) < (wrap64 (x5 + 8)) then (some (0, 0, 0, (⟨#[]⟩ : ByteArray), 0, 2)) else (if 0 ≤ (wrap64 (x5 + 4)) then (if (wrap64 (x5 + 4)) ≤ (x0.size : Int) then ((calamusref02_Seal.f k (x0.extract 0 ((wrap64 (x5 + 4)) : Int).toNat)).bind fun t194 => (if 0 ≤ (wrap64 (x5 + 8)) then (if (wrap64 (x5 + 8)) ≤ (x0.size : Int) then (if t194.toList = (x0.extract 0 ((wrap64 (x5 + 8)) : Int).toNat).toList then (if 5 ≤ 13 then (if 13 ≤ (x0.size : Int) then ((calamusref01_Reader_Num.f (x0.extract 5 13) 0).bind fun bt196 => ((calamusref01_Reader_Num.f bt196.2.1 bt196.2.2).bind fun bt199 => (if 4 < (x0.size : Int) then (if 13 ≤ (wrap64 (x5 + 4)) then (if bt199.2.2 = 0 then ((calamusref33_Right.f (wrap64 (bt x0 4)) bt196.1 bt199.1 (x0.extract 13 ((wrap64 (x5 + 4)) : Int).toNat)).bind fun t203 => (if t203 = true then (some (wrap64 (bt x0 4), bt196.1, bt199.1, x0.extract 13 ((wrap64 (x5 + 4)) : Int).toNat, wrap64 (x5 + 8), 0)) else (some (0, 0, 0, (⟨#[]⟩ : ByteArray), 0, 3)))) else (some (0, 0, 0, (⟨#[]⟩ : ByteArray), 0, 3))) else (none)) else (none)))) else (none)) else (none)) else (some (0, 0, 0, (⟨#[]⟩ : ByteArray), 0, 4))) else (none)) else (none))) else (none)) else (none)))
def calamusref33_Read.f (k : Nat) (a0 : ByteArray) : Option (Int × Int × Int × ByteArray × Int × Int) := if (a0.size : Int) < 4 then (some (0, 0, 0, (⟨#[]⟩ : ByteArray), 0, 2)) else (if 0 < (a0.size : Int) then (if 1 < (a0.size : Int) then (if 2 < (a0.size : Int) then (if 3 < (a0.size : Int) then (if (wrap64 ((wrap64 ((wrap64 ((wrap64 (bt a0 0)) + (wrap64 (256 * (wrap64 (bt a0 1)))))) + (wrap64 (65536 * (wrap64 (bt a0 2)))))) + (wrap64 (16777216 * (wrap64 (bt a0 3)))))) < 9 then (calamusref33_Read.j0 k a0 (wrap64 ((wrap64 ((wrap64 ((wrap64 (bt a0 0)) + (wrap64 (256 * (wrap64 (bt a0 1)))))) + (wrap64 (65536 * (wrap64 (bt a0 2)))))) + (wrap64 (16777216 * (wrap64 (bt a0 3)))))) true) else (calamusref33_Read.j0 k a0 (wrap64 ((wrap64 ((wrap64 ((wrap64 (bt a0 0)) + (wrap64 (256 * (wrap64 (bt a0 1)))))) + (wrap64 (65536 * (wrap64 (bt a0 2)))))) + (wrap64 (16777216 * (wrap64 (bt a0 3)))))) (decide ((wrap64 ((wrap64 ((wrap64 ((wrap64 (bt a0 0)) + (wrap64 (256 * (wrap64 (bt a0 1)))))) + (wrap64 (65536 * (wrap64 (bt a0 2)))))) + (wrap64 (16777216 * (wrap64 (bt a0 3)))))) > 73)))) else (none)) else (none)) else (none)) else (none))
theorem calamusref33_Read.mono_l : ∀ k, (∀ y0 y1 y2, LeO (calamusref33_Read.j0 k y0 y1 y2) (calamusref33_Read.j0 (k + 1) y0 y1 y2))
 | 0 => fun _ _ _ r h => by simp [calamusref33_Read.j0] at h
 | k + 1 => by
  have ih0 := calamusref33_Read.mono_l k
  ·intro y0 y1 y2
   unfold calamusref33_Read.j0
   repeat' first
   | (with_reducible exact ih0 _ _ _)
   | (with_reducible exact calamusref02_Seal.mono _ _)
   | (with_reducible exact LeO.refl _)
   | (with_reducible exact LeO.none _)
   | (with_reducible refine LeO.ite ?_ ?_)
   | (with_reducible refine LeO.bind ?_ (fun _ => ?_))
   | exact ih0 _ _ _
   | exact calamusref02_Seal.mono _ _
   | exact LeO.none _
   | refine LeO.ite ?_ ?_
   | refine LeO.bind ?_ (fun _ => ?_)
theorem calamusref33_Read.mono : ∀ a0 k, LeO (calamusref33_Read.f k a0) (calamusref33_Read.f (k + 1) a0) := by
 intro a0 k
 have ih0 := calamusref33_Read.mono_l k
 unfold calamusref33_Read.f
 repeat' first
   | (with_reducible exact ih0 _ _ _)
   | (with_reducible exact calamusref02_Seal.mono _ _)
   | (with_reducible exact LeO.refl _)
   | (with_reducible exact LeO.none _)
   | (with_reducible refine LeO.ite ?_ ?_)
   | (with_reducible refine LeO.bind ?_ (fun _ => ?_))
   | exact ih0 _ _ _
   | exact calamusref02_Seal.mono _ _
   | exact LeO.none _
   | refine LeO.ite ?_ ?_
   | refine LeO.bind ?_ (fun _ => ?_)
def calamusref33_Read.T3 : Bool × List (List Nat × List Nat) := (true, [([], []), ([0], [0]), ([1], [1]), ([], []), ([3], [3]), ([4], [4]), ([5], [5]), ([2, 6], [2, 6]), ([], []), ([8], [8]), ([9], [9]), ([10], [10]), ([7, 11], [7, 11]), ([], []), ([13], [13]), ([14], [14]), ([15], [15]), ([12, 16], [12, 16]), ([17, 0, 1, 2, 3, 4, 5, 6, 7, 8, 9, 10, 11, 12, 13, 14, 15, 16, 17], [17])])
def calamusref33_Read.B3 : List Nat := [0, 1, 3, 0, 8, 24, 56, 127, 0, 256, 768, 1792, 4095, 0, 8192, 24576, 57344, 131071, 262143]
theorem calamusref33_Read.tab3 : rtab .any (opsOf Try.f25 3) = calamusref33_Read.T3 := by kernel_rfl
theorem calamusref33_Read.bits3 : waitsOk calamusref33_Read.T3.2 calamusref33_Read.B3 = true := by kernel_rfl
def calamusref33_Read.T8 : Bool × List (List Nat × List Nat) := (true, [([], []), ([], []), ([1], [1]), ([0, 2], [0, 2]), ([3], [3]), ([], []), ([], []), ([6], [6]), ([5, 7], [5, 7]), ([4, 8], [4, 8])])
def calamusref33_Read.B8 : List Nat := [0, 0, 2, 7, 15, 0, 0, 64, 224, 511]
theorem calamusref33_Read.tab8 : rtab .any (opsOf Try.f25 8) = calamusref33_Read.T8 := by kernel_rfl
theorem calamusref33_Read.bits8 : waitsOk calamusref33_Read.T8.2 calamusref33_Read.B8 = true := by kernel_rfl
def calamusref33_Read.T13 : Bool × List (List Nat × List Nat) := (true, [([], []), ([0], [0]), ([1], [1]), ([], []), ([], []), ([], []), ([], []), ([6], [6]), ([5, 7], [5, 7]), ([2, 3, 4, 8], [2, 3, 4, 8]), ([], []), ([10, 9, 0, 1, 2, 3, 4, 5, 6, 7, 8, 9, 10], [9, 10])])
def calamusref33_Read.B13 : List Nat := [0, 1, 3, 0, 0, 0, 0, 64, 224, 511, 0, 2047]
theorem calamusref33_Read.tab13 : rtab .any (opsOf Try.f25 13) = calamusref33_Read.T13 := by kernel_rfl
theorem calamusref33_Read.bits13 : waitsOk calamusref33_Read.T13.2 calamusref33_Read.B13 = true := by kernel_rfl
set_option maxHeartbeats 8000000 in
set_option maxRecDepth 100000 in
theorem calamusref33_Read.calls (k : Nat) (a0 : ByteArray) (r1 : Int) (r2 : Int) (r3 : Int) (r4 : ByteArray) (r5 : Int) (r6 : Int) (w : World) (h : calamusref33_Read.f k a0 = some (r1, r2, r3, r4, r5, r6)) :
  Calls Try.prog 25 #[.string a0] w fun e w' => e = .returned (.tuple #[.agg #[.int .i64 r1, .int .i64 r2, .int .i64 r3, .string r4], .int .i64 r5, .int .i64 r6]) ∧ Below w.heap.size w w' := by
 have hu26 := Try.underlying26
 have hu61 := Try.underlying61
 have HB := Aside0.mk (Below.refl w.heap.size w)
 have H : (if (a0.size : Int) < 4 then (some (0, 0, 0, (⟨#[]⟩ : ByteArray), 0, 2)) else (if 0 < (a0.size : Int) then (if 1 < (a0.size : Int) then (if 2 < (a0.size : Int) then (if 3 < (a0.size : Int) then (if (wrap64 ((wrap64 ((wrap64 ((wrap64 (bt a0 0)) + (wrap64 (256 * (wrap64 (bt a0 1)))))) + (wrap64 (65536 * (wrap64 (bt a0 2)))))) + (wrap64 (16777216 * (wrap64 (bt a0 3)))))) < 9 then (calamusref33_Read.j0 k a0 (wrap64 ((wrap64 ((wrap64 ((wrap64 (bt a0 0)) + (wrap64 (256 * (wrap64 (bt a0 1)))))) + (wrap64 (65536 * (wrap64 (bt a0 2)))))) + (wrap64 (16777216 * (wrap64 (bt a0 3)))))) true) else (calamusref33_Read.j0 k a0 (wrap64 ((wrap64 ((wrap64 ((wrap64 (bt a0 0)) + (wrap64 (256 * (wrap64 (bt a0 1)))))) + (wrap64 (65536 * (wrap64 (bt a0 2)))))) + (wrap64 (16777216 * (wrap64 (bt a0 3)))))) (decide ((wrap64 ((wrap64 ((wrap64 ((wrap64 (bt a0 0)) + (wrap64 (256 * (wrap64 (bt a0 1)))))) + (wrap64 (65536 * (wrap64 (bt a0 2)))))) + (wrap64 (16777216 * (wrap64 (bt a0 3)))))) > 73)))) else (none)) else (none)) else (none)) else (none))) = some (r1, r2, r3, r4, r5, r6) := h
 clear h
 by_cases c2 : (a0.size : Int) < 4
 ·rw [if_pos c2] at H
  have c2b0 : decide ((a0.size : Int) < 4) = true := decide_eq_true c2
  have c2b1 : decide (a0.size < 4) = true := decide_eq_true (by omega)
  clear c2
  simp only [Option.some.injEq, Prod.mk.injEq] at H
  obtain ⟨rfl, rfl, rfl, rfl, rfl, rfl⟩ := H
  go_enter Try.func25, Try.ntmps25
  go_wp2_with (first | ((with_reducible refine gate_dst (N := 2) rfl ?_); refine be_ (N := 2) (cs := #[.int .i64 0, .int .i64 0, .int .i64 0, .string (⟨#[]⟩ : ByteArray)]) (t := 26) (h := ?_); intro gb193 hg w3 hbox hb; have BK193 := Aside0.mk (hbox); have GW193 := gw_ HB hg; have GE193 := gw_ HB hg; replace HB := bs_ HB hb; clear hb hbox hg; obtain ⟨hcz4_0, hcz4_1, hcz4_2, hcz4_3, hfz4_0, hfz4_1, hfz4_2, hfz4_3⟩ := bc4_ BK193))
  refine bodyPost_ret (results_ctt rfl _ _ gb193 26 #[.int .i64 0, .int .i64 0, .int .i64 0, .string (⟨#[]⟩ : ByteArray)] (0, 0) _ rfl (bp_ BK193.out) Try.underlying26 rfl (by kernel_rfl)) rfl ?_
  exact ⟨er_, hb_ HB⟩
 ·rw [if_neg c2] at H
  have c2b0 : decide ((a0.size : Int) < 4) = false := decide_eq_false c2
  have c2b1 : decide (a0.size < 4) = false := decide_eq_false (by omega)
  clear c2
  by_cases c5 : 0 < (a0.size : Int)
  ·rw [if_pos c5] at H
   have c5b0 : decide (0 < (a0.size : Int)) = true := decide_eq_true c5
   have c5b1 : decide (0 < a0.size) = true := decide_eq_true (by omega)
   clear c5
   by_cases c7 : 1 < (a0.size : Int)
   ·rw [if_pos c7] at H
    have c7b0 : decide (1 < (a0.size : Int)) = true := decide_eq_true c7
    have c7b1 : decide (1 < a0.size) = true := decide_eq_true (by omega)
    clear c7
    by_cases c9 : 2 < (a0.size : Int)
    ·rw [if_pos c9] at H
     have c9b0 : decide (2 < (a0.size : Int)) = true := decide_eq_true c9
     have c9b1 : decide (2 < a0.size) = true := decide_eq_true (by omega)
     clear c9
     by_cases c11 : 3 < (a0.size : Int)
     ·rw [if_pos c11] at H
      have c11b0 : decide (3 < (a0.size : Int)) = true := decide_eq_true c11
      have c11b1 : decide (3 < a0.size) = true := decide_eq_true (by omega)
      clear c11
      have HC13 := Aside0.mk H
      clear H
      go_enter Try.func25, Try.ntmps25
      try go_wp2_with (first | ((with_reducible refine gate_dst (N := 2) rfl ?_); refine be_ (N := 2) (cs := #[.int .i64 0, .int .i64 0, .int .i64 0, .string (⟨#[]⟩ : ByteArray)]) (t := 26) (h := ?_); intro gb193 hg w14 hbox hb; have BK193 := Aside0.mk (hbox); have GW193 := gw_ HB hg; have GE193 := gw_ HB hg; replace HB := bs_ HB hb; clear hb hbox hg))
      have n0_ := Aside0.mk (blk_drew BK193.out)
      have n1_ := Aside0.mk (below_drew1 HB.out)
      clear BK193
      clear HB
      have BK193 := n0_
      have HB := n1_
      clear n0_ n1_
      have p6 : 0 ≤ (0 : Int) := (by omega)
      have q6 : 0 < a0.size := (by have : (0 : Int) < (a0.size : Int) := of_decide_eq_true as_; omega)
      have hx6 : ∀ h : 0 < a0.size, ((a0[0]'h).toNat : Int) = bt a0 0 := bt_at a0 0
      clear p6
      have qi6 : (0 < (a0.size : Int)) = True := eq_true (of_decide_eq_true as_)
      replace q6 := eq_true q6
      have p8 : 0 ≤ (1 : Int) := (by omega)
      have q8 : 1 < a0.size := (by have : (1 : Int) < (a0.size : Int) := of_decide_eq_true as_; omega)
      have hx8 : ∀ h : 1 < a0.size, ((a0[1]'h).toNat : Int) = bt a0 1 := bt_at a0 1
      clear p8
      have qi8 : (1 < (a0.size : Int)) = True := eq_true (of_decide_eq_true as_)
      replace q8 := eq_true q8
      have p10 : 0 ≤ (2 : Int) := (by omega)
      have q10 : 2 < a0.size := (by have : (2 : Int) < (a0.size : Int) := of_decide_eq_true as_; omega)
      have hx10 : ∀ h : 2 < a0.size, ((a0[2]'h).toNat : Int) = bt a0 2 := bt_at a0 2
      clear p10
      have qi10 : (2 < (a0.size : Int)) = True := eq_true (of_decide_eq_true as_)
      replace q10 := eq_true q10
      have p12 : 0 ≤ (3 : Int) := (by omega)
      have q12 : 3 < a0.size := (by have : (3 : Int) < (a0.size : Int) := of_decide_eq_true as_; omega)
      have hx12 : ∀ h : 3 < a0.size, ((a0[3]'h).toNat : Int) = bt a0 3 := bt_at a0 3
      clear p12
      have qi12 : (3 < (a0.size : Int)) = True := eq_true (of_decide_eq_true as_)
      replace q12 := eq_true q12
      refine start_ (n := 19) (S := fun w' => True) (ds := []) #[false, false, false, false, false, false, false, false, false, false, false, false, false, false, false, false, false, false, false] (by kernel_rfl) rfl rfl trivial (fun hHeld => ?_); refine with_tabW calamusref33_Read.tab3 calamusref33_Read.bits3 (fun HT_ HW_ => ?_)
      generalize w14.drew = w15 at BK193 HB hHeld ⊢
      refine pp_ (i := 0) (N := some 14) #[true, false, false, false, false, false, false, false, false, false, false, false, false, false, false, false, false, false, false] rfl rfl (any_of HT_.out (by kernel_rfl)) (h := ?_)
      refine pp_ (i := 3) (N := some 17) #[true, false, false, true, false, false, false, false, false, false, false, false, false, false, false, false, false, false, false] rfl rfl (any_of HT_.out (by kernel_rfl)) (h := ?_)
      refine pp_ (i := 8) (N := some 22) #[true, false, false, true, false, false, false, false, true, false, false, false, false, false, false, false, false, false, false] rfl rfl (any_of HT_.out (by kernel_rfl)) (h := ?_)
      refine pp_ (i := 13) (N := some 27) #[true, false, false, true, false, false, false, false, true, false, false, false, false, true, false, false, false, false, false] rfl rfl (any_of HT_.out (by kernel_rfl)) (h := ?_)
      refine take_ (i := 1) (N := some 15) (v := ?_) (a' := ?_) #[true, true, false, true, false, false, false, false, true, false, false, false, false, true, false, false, false, false, false] rfl rfl (take_ofW HT_.out HW_.out (by kernel_rfl)) (fun _ _ _ h => h) (Or.inl ⟨by rfl, ?_⟩) hHeld ?_ ?_
      rotate_left
      ·intro w' _
       go_simp
       with_reducible rfl
      rotate_left
      ·simp only [Act.put, List.setIfInBounds_toArray, List.set_cons_zero, List.set_cons_succ, i64_w, i32_w]
       rfl
      refine pp_ (i := 2) (N := some 16) #[true, true, true, true, false, false, false, false, true, false, false, false, false, true, false, false, false, false, false] rfl rfl (any_of HT_.out (by kernel_rfl)) (h := ?_)
      refine take_ (i := 4) (N := some 18) (v := ?_) (a' := ?_) #[true, true, true, true, true, false, false, false, true, false, false, false, false, true, false, false, false, false, false] rfl rfl (take_ofW HT_.out HW_.out (by kernel_rfl)) (fun _ _ _ h => h) (Or.inl ⟨by rfl, ?_⟩) hHeld ?_ ?_
      rotate_left
      ·intro w' _
       go_simp
       with_reducible rfl
      rotate_left
      ·simp only [Act.put, List.setIfInBounds_toArray, List.set_cons_zero, List.set_cons_succ, i64_w, i32_w]
       rfl
      refine pp_ (i := 5) (N := some 19) #[true, true, true, true, true, true, false, false, true, false, false, false, false, true, false, false, false, false, false] rfl rfl (any_of HT_.out (by kernel_rfl)) (h := ?_)
      refine pp_ (i := 6) (N := some 20) #[true, true, true, true, true, true, true, false, true, false, false, false, false, true, false, false, false, false, false] rfl rfl (any_of HT_.out (by kernel_rfl)) (h := ?_)
      refine pp_ (i := 7) (N := some 21) #[true, true, true, true, true, true, true, true, true, false, false, false, false, true, false, false, false, false, false] rfl rfl (any_of HT_.out (by kernel_rfl)) (h := ?_)
      refine take_ (i := 9) (N := some 23) (v := ?_) (a' := ?_) #[true, true, true, true, true, true, true, true, true, true, false, false, false, true, false, false, false, false, false] rfl rfl (take_ofW HT_.out HW_.out (by kernel_rfl)) (fun _ _ _ h => h) (Or.inl ⟨by rfl, ?_⟩) hHeld ?_ ?_
      rotate_left
      ·intro w' _
       go_simp
       with_reducible rfl
      rotate_left
      ·simp only [Act.put, List.setIfInBounds_toArray, List.set_cons_zero, List.set_cons_succ, i64_w, i32_w]
       rfl
      refine pp_ (i := 10) (N := some 24) #[true, true, true, true, true, true, true, true, true, true, true, false, false, true, false, false, false, false, false] rfl rfl (any_of HT_.out (by kernel_rfl)) (h := ?_)
      refine pp_ (i := 11) (N := some 25) #[true, true, true, true, true, true, true, true, true, true, true, true, false, true, false, false, false, false, false] rfl rfl (any_of HT_.out (by kernel_rfl)) (h := ?_)
      refine pp_ (i := 12) (N := some 26) #[true, true, true, true, true, true, true, true, true, true, true, true, true, true, false, false, false, false, false] rfl rfl (any_of HT_.out (by kernel_rfl)) (h := ?_)
      refine take_ (i := 14) (N := some 28) (v := ?_) (a' := ?_) #[true, true, true, true, true, true, true, true, true, true, true, true, true, true, true, false, false, false, false] rfl rfl (take_ofW HT_.out HW_.out (by kernel_rfl)) (fun _ _ _ h => h) (Or.inl ⟨by rfl, ?_⟩) hHeld ?_ ?_
      rotate_left
      ·intro w' _
       go_simp
       with_reducible rfl
      rotate_left
      ·simp only [Act.put, List.setIfInBounds_toArray, List.set_cons_zero, List.set_cons_succ, i64_w, i32_w]
       rfl
      refine pp_ (i := 15) (N := some 29) #[true, true, true, true, true, true, true, true, true, true, true, true, true, true, true, true, false, false, false] rfl rfl (any_of HT_.out (by kernel_rfl)) (h := ?_)
      refine pp_ (i := 16) (N := some 30) #[true, true, true, true, true, true, true, true, true, true, true, true, true, true, true, true, true, false, false] rfl rfl (any_of HT_.out (by kernel_rfl)) (h := ?_)
      refine pp_ (i := 17) (N := some 31) #[true, true, true, true, true, true, true, true, true, true, true, true, true, true, true, true, true, true, false] rfl rfl (any_of HT_.out (by kernel_rfl)) (h := ?_)
      refine pp_ (i := 18) (N := some 5) #[true, true, true, true, true, true, true, true, true, true, true, true, true, true, true, true, true, true, true] rfl rfl (any_of HT_.out (by kernel_rfl)) (h := ?_)
      refine done_ (done_of HT_.out (by kernel_rfl)) ?_
      go_upto_region 4 with (fail)
      go_cut [37] (fun v37 wc => ∃ (kq : Nat) (x37_12 : Bool), v37 = .bool x37_12 ∧ Aside0 (calamusref33_Read.j0 kq a0 (wrap64 ((wrap64 ((wrap64 ((wrap64 (bt a0 0)) + (wrap64 (256 * (wrap64 (bt a0 1)))))) + (wrap64 (65536 * (wrap64 (bt a0 2)))))) + (wrap64 (16777216 * (wrap64 (bt a0 3)))))) x37_12 = some (r1, r2, r3, r4, r5, r6)) ∧ Aside0 (kq ≤ k) ∧ Aside0 (wc.heap[gb193]? = some (.cells #[.int .i64 0, .int .i64 0, .int .i64 0, .string (⟨#[]⟩ : ByteArray)] 26 (0, 0))) ∧ Aside0 (Below w.heap.size w wc))
      case first =>
       have H := HC13.out
       clear HC13
       by_cases c16 : (wrap64 ((wrap64 ((wrap64 ((wrap64 (bt a0 0)) + (wrap64 (256 * (wrap64 (bt a0 1)))))) + (wrap64 (65536 * (wrap64 (bt a0 2)))))) + (wrap64 (16777216 * (wrap64 (bt a0 3)))))) < 9
       ·rw [if_pos c16] at H
        have c16b0 : decide ((wrap64 ((wrap64 ((wrap64 ((wrap64 (bt a0 0)) + (wrap64 (256 * (wrap64 (bt a0 1)))))) + (wrap64 (65536 * (wrap64 (bt a0 2)))))) + (wrap64 (16777216 * (wrap64 (bt a0 3)))))) < 9) = true := decide_eq_true c16
        clear c16
        (first | rw [c16b0] | (simp only [i64_w, i32_w]; rw [c16b0]) | skip)
        have H' := Aside0.mk H
        clear H
        go_wp2
        go_meet
        case rel => exact ⟨_, (true), es_, H', ⟨by first | omega | exact Nat.le_refl _⟩, ⟨bw_ BK193.out⟩, ⟨hb_ HB⟩⟩
       ·rw [if_neg c16] at H
        have c16b0 : decide ((wrap64 ((wrap64 ((wrap64 ((wrap64 (bt a0 0)) + (wrap64 (256 * (wrap64 (bt a0 1)))))) + (wrap64 (65536 * (wrap64 (bt a0 2)))))) + (wrap64 (16777216 * (wrap64 (bt a0 3)))))) < 9) = false := decide_eq_false c16
        clear c16
        (first | rw [c16b0] | (simp only [i64_w, i32_w]; rw [c16b0]) | skip)
        have H' := Aside0.mk H
        clear H
        go_wp2
        go_meet
        case rel => exact ⟨_, (decide ((wrap64 ((wrap64 ((wrap64 ((wrap64 (bt a0 0)) + (wrap64 (256 * (wrap64 (bt a0 1)))))) + (wrap64 (65536 * (wrap64 (bt a0 2)))))) + (wrap64 (16777216 * (wrap64 (bt a0 3)))))) > 73)), es_, H', ⟨by first | omega | exact Nat.le_refl _⟩, ⟨bw_ BK193.out⟩, ⟨hb_ HB⟩⟩
      case rest =>
       clear HC13
       try clear c2
       try clear c2b0
       try clear c2b1
       try clear c5
       try clear c5b0
       try clear c5b1
       try clear p6
       try clear q6
       try clear hx6
       try clear qi6
       try clear c7
       try clear c7b0
       try clear c7b1
       try clear p8
       try clear q8
       try clear hx8
       try clear qi8
       try clear c9
       try clear c9b0
       try clear c9b1
       try clear p10
       try clear q10
       try clear hx10
       try clear qi10
       try clear c11
       try clear c11b0
       try clear c11b1
       try clear p12
       try clear q12
       try clear hx12
       try clear qi12
       try clear p10
       try clear p12
       try clear p6
       try clear p8
       try clear q10
       try clear q12
       try clear q6
       try clear q8
       obtain ⟨kq, x37_12, rfl, HA, HJ12, BK193, HB⟩ := hcut
       cases kq with
       | zero => exact absurd HA.out (by simp [calamusref33_Read.j0])
       | succ kj12 =>
        have H := HA.out
        clear HA
        simp only [calamusref33_Read.j0] at H
        by_cases c17 : x37_12 = true
        ·subst c17
         have H1 : (some (0, 0, 0, (⟨#[]⟩ : ByteArray), 0, 3)) = some (r1, r2, r3, r4, r5, r6) := by rw [if_pos rfl] at H; exact H
         clear H
         have H := H1
         clear H1
         simp only [Option.some.injEq, Prod.mk.injEq] at H
         obtain ⟨rfl, rfl, rfl, rfl, rfl, rfl⟩ := H
         obtain ⟨hcz18_0, hcz18_1, hcz18_2, hcz18_3, hfz18_0, hfz18_1, hfz18_2, hfz18_3⟩ := bc4_ BK193
         go_wp2
         refine bodyPost_ret (results_ctt rfl _ _ gb193 26 #[.int .i64 0, .int .i64 0, .int .i64 0, .string (⟨#[]⟩ : ByteArray)] (0, 0) _ rfl (bp_ BK193.out) Try.underlying26 rfl (by kernel_rfl)) rfl ?_
         exact ⟨er_, hb_ HB⟩
        ·replace c17 := Bool.eq_false_iff.mpr c17
         subst c17
         have H1 : (if (a0.size : Int) < (wrap64 ((wrap64 ((wrap64 ((wrap64 ((wrap64 (bt a0 0)) + (wrap64 (256 * (wrap64 (bt a0 1)))))) + (wrap64 (65536 * (wrap64 (bt a0 2)))))) + (wrap64 (16777216 * (wrap64 (bt a0 3)))))) + 8)) then (some (0, 0, 0, (⟨#[]⟩ : ByteArray), 0, 2)) else (if 0 ≤ (wrap64 ((wrap64 ((wrap64 ((wrap64 ((wrap64 (bt a0 0)) + (wrap64 (256 * (wrap64 (bt a0 1)))))) + (wrap64 (65536 * (wrap64 (bt a0 2)))))) + (wrap64 (16777216 * (wrap64 (bt a0 3)))))) + 4)) then (if (wrap64 ((wrap64 ((wrap64 ((wrap64 ((wrap64 (bt a0 0)) + (wrap64 (256 * (wrap64 (bt a0 1)))))) + (wrap64 (65536 * (wrap64 (bt a0 2)))))) + (wrap64 (16777216 * (wrap64 (bt a0 3)))))) + 4)) ≤ (a0.size : Int) then ((calamusref02_Seal.f kj12 (a0.extract 0 ((wrap64 ((wrap64 ((wrap64 ((wrap64 ((wrap64 (bt a0 0)) + (wrap64 (256 * (wrap64 (bt a0 1)))))) + (wrap64 (65536 * (wrap64 (bt a0 2)))))) + (wrap64 (16777216 * (wrap64 (bt a0 3)))))) + 4)) : Int).toNat)).bind fun t194 => (if 0 ≤ (wrap64 ((wrap64 ((wrap64 ((wrap64 ((wrap64 (bt a0 0)) + (wrap64 (256 * (wrap64 (bt a0 1)))))) + (wrap64 (65536 * (wrap64 (bt a0 2)))))) + (wrap64 (16777216 * (wrap64 (bt a0 3)))))) + 8)) then (if (wrap64 ((wrap64 ((wrap64 ((wrap64 ((wrap64 (bt a0 0)) + (wrap64 (256 * (wrap64 (bt a0 1)))))) + (wrap64 (65536 * (wrap64 (bt a0 2)))))) + (wrap64 (16777216 * (wrap64 (bt a0 3)))))) + 8)) ≤ (a0.size : Int) then (if t194.toList = (a0.extract 0 ((wrap64 ((wrap64 ((wrap64 ((wrap64 ((wrap64 (bt a0 0)) + (wrap64 (256 * (wrap64 (bt a0 1)))))) + (wrap64 (65536 * (wrap64 (bt a0 2)))))) + (wrap64 (16777216 * (wrap64 (bt a0 3)))))) + 8)) : Int).toNat).toList then (if 5 ≤ 13 then (if 13 ≤ (a0.size : Int) then ((calamusref01_Reader_Num.f (a0.extract 5 13) 0).bind fun bt196 => ((calamusref01_Reader_Num.f bt196.2.1 bt196.2.2).bind fun bt199 => (if 4 < (a0.size : Int) then (if 13 ≤ (wrap64 ((wrap64 ((wrap64 ((wrap64 ((wrap64 (bt a0 0)) + (wrap64 (256 * (wrap64 (bt a0 1)))))) + (wrap64 (65536 * (wrap64 (bt a0 2)))))) + (wrap64 (16777216 * (wrap64 (bt a0 3)))))) + 4)) then (if bt199.2.2 = 0 then ((calamusref33_Right.f (wrap64 (bt a0 4)) bt196.1 bt199.1 (a0.extract 13 ((wrap64 ((wrap64 ((wrap64 ((wrap64 ((wrap64 (bt a0 0)) + (wrap64 (256 * (wrap64 (bt a0 1)))))) + (wrap64 (65536 * (wrap64 (bt a0 2)))))) + (wrap64 (16777216 * (wrap64 (bt a0 3)))))) + 4)) : Int).toNat)).bind fun t203 => (if t203 = true then (some (wrap64 (bt a0 4), bt196.1, bt199.1, a0.extract 13 ((wrap64 ((wrap64 ((wrap64 ((wrap64 ((wrap64 (bt a0 0)) + (wrap64 (256 * (wrap64 (bt a0 1)))))) + (wrap64 (65536 * (wrap64 (bt a0 2)))))) + (wrap64 (16777216 * (wrap64 (bt a0 3)))))) + 4)) : Int).toNat, wrap64 ((wrap64 ((wrap64 ((wrap64 ((wrap64 (bt a0 0)) + (wrap64 (256 * (wrap64 (bt a0 1)))))) + (wrap64 (65536 * (wrap64 (bt a0 2)))))) + (wrap64 (16777216 * (wrap64 (bt a0 3)))))) + 8), 0)) else (some (0, 0, 0, (⟨#[]⟩ : ByteArray), 0, 3)))) else (some (0, 0, 0, (⟨#[]⟩ : ByteArray), 0, 3))) else (none)) else (none)))) else (none)) else (none)) else (some (0, 0, 0, (⟨#[]⟩ : ByteArray), 0, 4))) else (none)) else (none))) else (none)) else (none))) = some (r1, r2, r3, r4, r5, r6) := by rw [if_neg (show ¬ (false = true) by decide)] at H; exact H
         clear H
         have H := H1
         clear H1
         by_cases c19 : (a0.size : Int) < (wrap64 ((wrap64 ((wrap64 ((wrap64 ((wrap64 (bt a0 0)) + (wrap64 (256 * (wrap64 (bt a0 1)))))) + (wrap64 (65536 * (wrap64 (bt a0 2)))))) + (wrap64 (16777216 * (wrap64 (bt a0 3)))))) + 8))
         ·rw [if_pos c19] at H
          have c19b0 : decide ((a0.size : Int) < (wrap64 ((wrap64 ((wrap64 ((wrap64 ((wrap64 (bt a0 0)) + (wrap64 (256 * (wrap64 (bt a0 1)))))) + (wrap64 (65536 * (wrap64 (bt a0 2)))))) + (wrap64 (16777216 * (wrap64 (bt a0 3)))))) + 8))) = true := decide_eq_true c19
          clear c19
          simp only [Option.some.injEq, Prod.mk.injEq] at H
          obtain ⟨rfl, rfl, rfl, rfl, rfl, rfl⟩ := H
          obtain ⟨hcz20_0, hcz20_1, hcz20_2, hcz20_3, hfz20_0, hfz20_1, hfz20_2, hfz20_3⟩ := bc4_ BK193
          go_wp2
          refine bodyPost_ret (results_ctt rfl _ _ gb193 26 #[.int .i64 0, .int .i64 0, .int .i64 0, .string (⟨#[]⟩ : ByteArray)] (0, 0) _ rfl (bp_ BK193.out) Try.underlying26 rfl (by kernel_rfl)) rfl ?_
          exact ⟨er_, hb_ HB⟩
         ·rw [if_neg c19] at H
          have c19b0 : decide ((a0.size : Int) < (wrap64 ((wrap64 ((wrap64 ((wrap64 ((wrap64 (bt a0 0)) + (wrap64 (256 * (wrap64 (bt a0 1)))))) + (wrap64 (65536 * (wrap64 (bt a0 2)))))) + (wrap64 (16777216 * (wrap64 (bt a0 3)))))) + 8))) = false := decide_eq_false c19
          clear c19
          obtain ⟨ji21, hji21⟩ : ∃ j_ : Int, (wrap64 ((wrap64 ((wrap64 ((wrap64 ((wrap64 (bt a0 0)) + (wrap64 (256 * (wrap64 (bt a0 1)))))) + (wrap64 (65536 * (wrap64 (bt a0 2)))))) + (wrap64 (16777216 * (wrap64 (bt a0 3)))))) + 4)) = j_ := ⟨_, rfl⟩
          replace H : (if 0 ≤ (ji21) then (if (ji21) ≤ (a0.size : Int) then ((calamusref02_Seal.f kj12 (a0.extract 0 ((ji21) : Int).toNat)).bind fun t194 => (if 0 ≤ (wrap64 ((wrap64 ((wrap64 ((wrap64 ((wrap64 (bt a0 0)) + (wrap64 (256 * (wrap64 (bt a0 1)))))) + (wrap64 (65536 * (wrap64 (bt a0 2)))))) + (wrap64 (16777216 * (wrap64 (bt a0 3)))))) + 8)) then (if (wrap64 ((wrap64 ((wrap64 ((wrap64 ((wrap64 (bt a0 0)) + (wrap64 (256 * (wrap64 (bt a0 1)))))) + (wrap64 (65536 * (wrap64 (bt a0 2)))))) + (wrap64 (16777216 * (wrap64 (bt a0 3)))))) + 8)) ≤ (a0.size : Int) then (if t194.toList = (a0.extract 0 ((wrap64 ((wrap64 ((wrap64 ((wrap64 ((wrap64 (bt a0 0)) + (wrap64 (256 * (wrap64 (bt a0 1)))))) + (wrap64 (65536 * (wrap64 (bt a0 2)))))) + (wrap64 (16777216 * (wrap64 (bt a0 3)))))) + 8)) : Int).toNat).toList then (if 5 ≤ 13 then (if 13 ≤ (a0.size : Int) then ((calamusref01_Reader_Num.f (a0.extract 5 13) 0).bind fun bt196 => ((calamusref01_Reader_Num.f bt196.2.1 bt196.2.2).bind fun bt199 => (if 4 < (a0.size : Int) then (if 13 ≤ (ji21) then (if bt199.2.2 = 0 then ((calamusref33_Right.f (wrap64 (bt a0 4)) bt196.1 bt199.1 (a0.extract 13 ((ji21) : Int).toNat)).bind fun t203 => (if t203 = true then (some (wrap64 (bt a0 4), bt196.1, bt199.1, a0.extract 13 ((ji21) : Int).toNat, wrap64 ((wrap64 ((wrap64 ((wrap64 ((wrap64 (bt a0 0)) + (wrap64 (256 * (wrap64 (bt a0 1)))))) + (wrap64 (65536 * (wrap64 (bt a0 2)))))) + (wrap64 (16777216 * (wrap64 (bt a0 3)))))) + 8), 0)) else (some (0, 0, 0, (⟨#[]⟩ : ByteArray), 0, 3)))) else (some (0, 0, 0, (⟨#[]⟩ : ByteArray), 0, 3))) else (none)) else (none)))) else (none)) else (none)) else (some (0, 0, 0, (⟨#[]⟩ : ByteArray), 0, 4))) else (none)) else (none))) else (none)) else (none)) = some (r1, r2, r3, r4, r5, r6) := by first | (rw [hji21] at H; exact H) | (simp only [hji21] at H ⊢; exact H)
          have hji21w : (IntKind.i64.wrap ((wrap64 ((wrap64 ((wrap64 ((wrap64 (bt a0 0)) + (wrap64 (256 * (wrap64 (bt a0 1)))))) + (wrap64 (65536 * (wrap64 (bt a0 2)))))) + (wrap64 (16777216 * (wrap64 (bt a0 3)))))) + 4)) = ji21 := (i64_w _).trans hji21
          try (have hji21x := hji21; simp only [ByteArray.size_extract, Nat.min_self] at hji21x)
          by_cases c22 : 0 ≤ (ji21)
          ·rw [if_pos c22] at H
           have c22b0 := eq_true c22
           try (have c22b0x := c22b0; simp only [ByteArray.size_extract, Nat.min_self] at c22b0x)
           have c22b1 : decide (0 ≤ (ji21)) = true := decide_eq_true c22
           clear c22
           by_cases c23 : (ji21) ≤ (a0.size : Int)
           ·rw [if_pos c23] at H
            have c23b0 := eq_true c23
            try (have c23b0x := c23b0; simp only [ByteArray.size_extract, Nat.min_self] at c23b0x)
            have c23b1 : decide ((ji21) ≤ (a0.size : Int)) = true := decide_eq_true c23
            clear c23
            replace H := Option.bind_eq_some_iff.mp H
            obtain ⟨t194, A240, H⟩ := H
            replace H : (if 0 ≤ (wrap64 ((wrap64 ((wrap64 ((wrap64 ((wrap64 (bt a0 0)) + (wrap64 (256 * (wrap64 (bt a0 1)))))) + (wrap64 (65536 * (wrap64 (bt a0 2)))))) + (wrap64 (16777216 * (wrap64 (bt a0 3)))))) + 8)) then (if (wrap64 ((wrap64 ((wrap64 ((wrap64 ((wrap64 (bt a0 0)) + (wrap64 (256 * (wrap64 (bt a0 1)))))) + (wrap64 (65536 * (wrap64 (bt a0 2)))))) + (wrap64 (16777216 * (wrap64 (bt a0 3)))))) + 8)) ≤ (a0.size : Int) then (if t194.toList = (a0.extract 0 ((wrap64 ((wrap64 ((wrap64 ((wrap64 ((wrap64 (bt a0 0)) + (wrap64 (256 * (wrap64 (bt a0 1)))))) + (wrap64 (65536 * (wrap64 (bt a0 2)))))) + (wrap64 (16777216 * (wrap64 (bt a0 3)))))) + 8)) : Int).toNat).toList then (if 5 ≤ 13 then (if 13 ≤ (a0.size : Int) then ((calamusref01_Reader_Num.f (a0.extract 5 13) 0).bind fun bt196 => ((calamusref01_Reader_Num.f bt196.2.1 bt196.2.2).bind fun bt199 => (if 4 < (a0.size : Int) then (if 13 ≤ (ji21) then (if bt199.2.2 = 0 then ((calamusref33_Right.f (wrap64 (bt a0 4)) bt196.1 bt199.1 (a0.extract 13 ((ji21) : Int).toNat)).bind fun t203 => (if t203 = true then (some (wrap64 (bt a0 4), bt196.1, bt199.1, a0.extract 13 ((ji21) : Int).toNat, wrap64 ((wrap64 ((wrap64 ((wrap64 ((wrap64 (bt a0 0)) + (wrap64 (256 * (wrap64 (bt a0 1)))))) + (wrap64 (65536 * (wrap64 (bt a0 2)))))) + (wrap64 (16777216 * (wrap64 (bt a0 3)))))) + 8), 0)) else (some (0, 0, 0, (⟨#[]⟩ : ByteArray), 0, 3)))) else (some (0, 0, 0, (⟨#[]⟩ : ByteArray), 0, 3))) else (none)) else (none)))) else (none)) else (none)) else (some (0, 0, 0, (⟨#[]⟩ : ByteArray), 0, 4))) else (none)) else (none)) = some (r1, r2, r3, r4, r5, r6) := H
            have A24 := Aside0.mk A240
            clear A240
            obtain ⟨ji25, hji25⟩ : ∃ j_ : Int, (wrap64 ((wrap64 ((wrap64 ((wrap64 ((wrap64 (bt a0 0)) + (wrap64 (256 * (wrap64 (bt a0 1)))))) + (wrap64 (65536 * (wrap64 (bt a0 2)))))) + (wrap64 (16777216 * (wrap64 (bt a0 3)))))) + 8)) = j_ := ⟨_, rfl⟩
            replace H : (if 0 ≤ (ji25) then (if (ji25) ≤ (a0.size : Int) then (if t194.toList = (a0.extract 0 ((ji25) : Int).toNat).toList then (if 5 ≤ 13 then (if 13 ≤ (a0.size : Int) then ((calamusref01_Reader_Num.f (a0.extract 5 13) 0).bind fun bt196 => ((calamusref01_Reader_Num.f bt196.2.1 bt196.2.2).bind fun bt199 => (if 4 < (a0.size : Int) then (if 13 ≤ (ji21) then (if bt199.2.2 = 0 then ((calamusref33_Right.f (wrap64 (bt a0 4)) bt196.1 bt199.1 (a0.extract 13 ((ji21) : Int).toNat)).bind fun t203 => (if t203 = true then (some (wrap64 (bt a0 4), bt196.1, bt199.1, a0.extract 13 ((ji21) : Int).toNat, ji25, 0)) else (some (0, 0, 0, (⟨#[]⟩ : ByteArray), 0, 3)))) else (some (0, 0, 0, (⟨#[]⟩ : ByteArray), 0, 3))) else (none)) else (none)))) else (none)) else (none)) else (some (0, 0, 0, (⟨#[]⟩ : ByteArray), 0, 4))) else (none)) else (none)) = some (r1, r2, r3, r4, r5, r6) := by first | (rw [hji25] at H; exact H) | (simp only [hji25] at H ⊢; exact H)
            (try rw [hji25] at c19b0)
            (try rw [hji25] at A24)
            have hji25w : (IntKind.i64.wrap ((wrap64 ((wrap64 ((wrap64 ((wrap64 (bt a0 0)) + (wrap64 (256 * (wrap64 (bt a0 1)))))) + (wrap64 (65536 * (wrap64 (bt a0 2)))))) + (wrap64 (16777216 * (wrap64 (bt a0 3)))))) + 8)) = ji25 := (i64_w _).trans hji25
            try (have hji25x := hji25; simp only [ByteArray.size_extract, Nat.min_self] at hji25x)
            by_cases c26 : 0 ≤ (ji25)
            ·rw [if_pos c26] at H
             have c26b0 := eq_true c26
             try (have c26b0x := c26b0; simp only [ByteArray.size_extract, Nat.min_self] at c26b0x)
             have c26b1 : decide (0 ≤ (ji25)) = true := decide_eq_true c26
             clear c26
             by_cases c27 : (ji25) ≤ (a0.size : Int)
             ·rw [if_pos c27] at H
              have c27b0 := eq_true c27
              try (have c27b0x := c27b0; simp only [ByteArray.size_extract, Nat.min_self] at c27b0x)
              have c27b1 : decide ((ji25) ≤ (a0.size : Int)) = true := decide_eq_true c27
              clear c27
              by_cases c28 : t194.toList = (a0.extract 0 ((ji25) : Int).toNat).toList
              ·rw [if_pos c28] at H
               have c28b0 : (t194.toList == (a0.extract 0 ((ji25) : Int).toNat).toList) = true := beq_iff_eq.mpr c28
               have c28b1 : (t194.toList != (a0.extract 0 ((ji25) : Int).toNat).toList) = false := bne_eq_false_iff_eq.mpr c28
               clear c28
               by_cases c29 : 5 ≤ 13
               ·rw [if_pos c29] at H
                have c29b0 := eq_true c29
                try (have c29b0x := c29b0; simp only [ByteArray.size_extract, Nat.min_self] at c29b0x)
                have c29b1 : decide (5 ≤ 13) = true := decide_eq_true c29
                clear c29
                by_cases c30 : 13 ≤ (a0.size : Int)
                ·rw [if_pos c30] at H
                 have c30b0 := eq_true c30
                 try (have c30b0x := c30b0; simp only [ByteArray.size_extract, Nat.min_self] at c30b0x)
                 have c30b1 : decide (13 ≤ (a0.size : Int)) = true := decide_eq_true c30
                 clear c30
                 replace H := Option.bind_eq_some_iff.mp H
                 obtain ⟨⟨t196, t197, t198⟩, A310, H⟩ := H
                 replace H : ((calamusref01_Reader_Num.f t197 t198).bind fun bt199 => (if 4 < (a0.size : Int) then (if 13 ≤ (ji21) then (if bt199.2.2 = 0 then ((calamusref33_Right.f (wrap64 (bt a0 4)) t196 bt199.1 (a0.extract 13 ((ji21) : Int).toNat)).bind fun t203 => (if t203 = true then (some (wrap64 (bt a0 4), t196, bt199.1, a0.extract 13 ((ji21) : Int).toNat, ji25, 0)) else (some (0, 0, 0, (⟨#[]⟩ : ByteArray), 0, 3)))) else (some (0, 0, 0, (⟨#[]⟩ : ByteArray), 0, 3))) else (none)) else (none))) = some (r1, r2, r3, r4, r5, r6) := H
                 have A31 := Aside0.mk A310
                 clear A310
                 replace H := Option.bind_eq_some_iff.mp H
                 obtain ⟨⟨t199, t200, t201⟩, A320, H⟩ := H
                 replace H : (if 4 < (a0.size : Int) then (if 13 ≤ (ji21) then (if t201 = 0 then ((calamusref33_Right.f (wrap64 (bt a0 4)) t196 t199 (a0.extract 13 ((ji21) : Int).toNat)).bind fun t203 => (if t203 = true then (some (wrap64 (bt a0 4), t196, t199, a0.extract 13 ((ji21) : Int).toNat, ji25, 0)) else (some (0, 0, 0, (⟨#[]⟩ : ByteArray), 0, 3)))) else (some (0, 0, 0, (⟨#[]⟩ : ByteArray), 0, 3))) else (none)) else (none)) = some (r1, r2, r3, r4, r5, r6) := H
                 have A32 := Aside0.mk A320
                 clear A320
                 by_cases c33 : 4 < (a0.size : Int)
                 ·rw [if_pos c33] at H
                  have c33b0 : decide (4 < (a0.size : Int)) = true := decide_eq_true c33
                  have c33b1 : decide (4 < a0.size) = true := decide_eq_true (by omega)
                  clear c33
                  by_cases c35 : 13 ≤ (ji21)
                  ·rw [if_pos c35] at H
                   have c35b0 := eq_true c35
                   try (have c35b0x := c35b0; simp only [ByteArray.size_extract, Nat.min_self] at c35b0x)
                   have c35b1 : decide (13 ≤ (ji21)) = true := decide_eq_true c35
                   clear c35
                   have c36b0 := eq_true (of_decide_eq_true as_ : (ji21) ≤ (a0.size : Int))
                   by_cases c37 : t201 = 0
                   ·rw [if_pos c37] at H
                    have c37b0 : (t201 == 0) = true := beq_iff_eq.mpr c37
                    have c37b1 : (t201 != 0) = false := bne_eq_false_iff_eq.mpr c37
                    clear c37
                    replace H := Option.bind_eq_some_iff.mp H
                    obtain ⟨t203, A380, H⟩ := H
                    replace H : (if t203 = true then (some (wrap64 (bt a0 4), t196, t199, a0.extract 13 ((ji21) : Int).toNat, ji25, 0)) else (some (0, 0, 0, (⟨#[]⟩ : ByteArray), 0, 3))) = some (r1, r2, r3, r4, r5, r6) := H
                    have A38 := Aside0.mk A380
                    clear A380
                    by_cases c39 : t203 = true
                    ·subst c39
                     have H1 : (some (wrap64 (bt a0 4), t196, t199, a0.extract 13 ((ji21) : Int).toNat, ji25, 0)) = some (r1, r2, r3, r4, r5, r6) := by rw [if_pos rfl] at H; exact H
                     clear H
                     have H := H1
                     clear H1
                     simp only [Option.some.injEq, Prod.mk.injEq] at H
                     obtain ⟨rfl, rfl, rfl, rfl, rfl, rfl⟩ := H
                     try go_wp2
                     have n0_ := Aside0.mk (blk_drew BK193.out)
                     have n1_ := Aside0.mk (below_drew1 HB.out)
                     clear BK193
                     clear HB
                     have BK193 := n0_
                     have HB := n1_
                     clear n0_ n1_
                     refine start_ (n := 10) (S := fun w' => True) (ds := []) #[false, false, false, false, false, false, false, false, false, false] (by kernel_rfl) rfl rfl trivial (fun hHeld => ?_); refine with_tabW calamusref33_Read.tab8 calamusref33_Read.bits8 (fun HT_ HW_ => ?_)
                     generalize wc.drew = w40 at BK193 HB hHeld ⊢
                     refine pp_ (i := 0) (N := some 45) #[true, false, false, false, false, false, false, false, false, false] rfl rfl (any_of HT_.out (by kernel_rfl)) (h := ?_)
                     refine pp_ (i := 1) (N := some 46) #[true, true, false, false, false, false, false, false, false, false] rfl rfl (any_of HT_.out (by kernel_rfl)) (h := ?_)
                     refine pp_ (i := 2) (N := some 47) #[true, true, true, false, false, false, false, false, false, false] rfl rfl (any_of HT_.out (by kernel_rfl)) (h := ?_)
                     refine pp_ (i := 3) (N := some 48) #[true, true, true, true, false, false, false, false, false, false] rfl rfl (any_of HT_.out (by kernel_rfl)) (h := ?_)
                     refine pp_ (i := 5) (N := some 50) #[true, true, true, true, false, true, false, false, false, false] rfl rfl (any_of HT_.out (by kernel_rfl)) (h := ?_)
                     refine pp_ (i := 6) (N := some 51) #[true, true, true, true, false, true, true, false, false, false] rfl rfl (any_of HT_.out (by kernel_rfl)) (h := ?_)
                     refine pp_ (i := 7) (N := some 52) #[true, true, true, true, false, true, true, true, false, false] rfl rfl (any_of HT_.out (by kernel_rfl)) (h := ?_)
                     refine pp_ (i := 8) (N := some 53) #[true, true, true, true, false, true, true, true, true, false] rfl rfl (any_of HT_.out (by kernel_rfl)) (h := ?_)
                     refine one_ (i := 4) (N := some 49) #[true, true, true, true, true, true, true, true, true, false] rfl rfl (one_of HT_.out (by kernel_rfl)) (by decide) (fun K hK => ?_)
                     refine goes_ Try.func58 (by kernel_rfl) rfl #[.string (a0.extract 0 ((ji21) : Int).toNat)] (by rfl) rfl rfl (by (try simp only [List.map_toArray, List.map_cons, List.map_nil]); first | done | (simp only [hji21]; rfl) | rfl | (simp only [List.length_drop, List.length_take]; rfl)) ?_
                     with_reducible refine (calamusref02_Seal.calls kj12 (a0.extract 0 ((ji21) : Int).toNat) t194 _ A24.out).mono ?_
                     rintro e w41 ⟨rfl, hb⟩
                     refine ⟨_, rfl, ?_⟩
                     have n0_ := bb_ BK193 hb
                     have n1_ := bs_ HB hb
                     clear BK193
                     clear HB
                     have BK193 := n0_
                     have HB := n1_
                     clear n0_ n1_
                     (try clear hb)
                     (try clear hb2)
                     (try clear hk)
                     (try clear hi)
                     refine hK.out _ _ trivial (fun hHeld => ?_)
                     clear hK K
                     refine norm_ (a' := ?_) ?_ ?_
                     rotate_left
                     ·show Act.put _ (some 49) _ = _
                      simp only [Act.put, List.setIfInBounds_toArray, List.set_cons_zero, List.set_cons_succ, i64_w, i32_w]
                      rfl
                     refine pp_ (i := 9) (N := some 54) #[true, true, true, true, true, true, true, true, true, true] rfl rfl (any_of HT_.out (by kernel_rfl)) (h := ?_)
                     refine done_ (done_of HT_.out (by kernel_rfl)) ?_
                     try go_wp2_with (first | ((with_reducible refine gate_dst (N := 59) rfl ?_); refine be_ (N := 59) (cs := #[.string (a0.extract 5 13), .int .i64 0]) (t := 61) (h := ?_); intro gb195 hg w42 hbox hb; have HI195 := Aside0.mk ((⟨hbox, (by rw [hg]; exact (below_size (hb_ HB)) : w.heap.size ≤ gb195)⟩ : IsS61 w w42 gb195 (a0.extract 5 13) 0)); have GW195 := gw_ HB hg; have GE195 := gw_ HB hg; have NB193_195 := ne_ BK193 hg; have NB195_193 := en_ BK193 hg; replace BK193 := bb_ BK193 hb; replace HB := bs_ HB hb; clear hb hbox hg) | ((with_reducible refine gate_callee (f := 61) rfl ?_); refine ge_ (some 61) rfl rfl Try.func61 (by kernel_rfl) rfl #[.pointer (some ⟨gb195, 0, none⟩)] rfl (h := ?_); (with_reducible refine (calamusref01_Reader_Num.calls gb195 (a0.extract 5 13) 0 t196 t197 t198 w _ ?side1 ?side2 A31.out).mono ?_); (case side1 => repeat (first | (with_reducible first | exact HI195.out | apply IsS61.alloc | apply IsS61.drewN | apply IsS61.drew | apply IsS61.set_0 | apply IsS61.set_1 | refine IsS61.far ?_ NB195_193.out _) | exact HI195.out)); (case side2 => repeat (first | (with_reducible first | exact HB.out | apply below_alloc | apply pw_below_drewN | apply below_drew1 | refine below_set ?_ (IsS61.ge HI195.out) | refine below_set ?_ GE193.out) | exact HB.out)); rintro e w43 ⟨rfl, hi, hb, hk⟩; refine ⟨_, rfl, ?_⟩; replace BK193 := Aside0.mk (KeepBut.blk hk (g' := gb193) (o := .cells #[.int .i64 0, .int .i64 0, .int .i64 0, .string (⟨#[]⟩ : ByteArray)] 26 (0, 0)) (bw_ BK193.out) NB193_195.out (by simp)); replace HB := Aside0.mk (hb); replace HI195 := Aside0.mk (hi); (try clear hb); (try clear hb2); (try clear hk); (try clear hi)) | ((with_reducible refine gate_callee (f := 61) rfl ?_); refine ge_ (some 63) rfl rfl Try.func61 (by kernel_rfl) rfl #[.pointer (some ⟨gb195, 0, none⟩)] rfl (h := ?_); (with_reducible refine (calamusref01_Reader_Num.calls gb195 t197 t198 t199 t200 t201 w _ ?side1 ?side2 A32.out).mono ?_); (case side1 => repeat (first | (with_reducible first | exact HI195.out | apply IsS61.alloc | apply IsS61.drewN | apply IsS61.drew | apply IsS61.set_0 | apply IsS61.set_1 | refine IsS61.far ?_ NB195_193.out _) | exact HI195.out)); (case side2 => repeat (first | (with_reducible first | exact HB.out | apply below_alloc | apply pw_below_drewN | apply below_drew1 | refine below_set ?_ (IsS61.ge HI195.out) | refine below_set ?_ GE193.out) | exact HB.out)); rintro e w44 ⟨rfl, hi, hb, hk⟩; refine ⟨_, rfl, ?_⟩; replace BK193 := Aside0.mk (KeepBut.blk hk (g' := gb193) (o := .cells #[.int .i64 0, .int .i64 0, .int .i64 0, .string (⟨#[]⟩ : ByteArray)] 26 (0, 0)) (bw_ BK193.out) NB193_195.out (by simp)); replace HB := Aside0.mk (hb); replace HI195 := Aside0.mk (hi); (try clear hb); (try clear hb2); (try clear hk); (try clear hi)))
                     have n0_ := Aside0.mk (blk_drew BK193.out)
                     have n1_ := Aside0.mk (IsS61.drew HI195.out)
                     have n2_ := Aside0.mk (below_drew1 HB.out)
                     clear BK193
                     clear HI195
                     clear HB
                     have BK193 := n0_
                     have HI195 := n1_
                     have HB := n2_
                     clear n0_ n1_ n2_
                     have p34 : 0 ≤ (4 : Int) := (by omega)
                     have q34 : 4 < a0.size := (by have : (4 : Int) < (a0.size : Int) := of_decide_eq_true as_; omega)
                     have hx34 : ∀ h : 4 < a0.size, ((a0[4]'h).toNat : Int) = bt a0 4 := bt_at a0 4
                     clear p34
                     have qi34 : (4 < (a0.size : Int)) = True := eq_true (of_decide_eq_true as_)
                     replace q34 := eq_true q34
                     refine start_ (n := 12) (S := fun w' => True) (ds := []) #[false, false, false, false, false, false, false, false, false, false, false, false] (by kernel_rfl) rfl rfl trivial (fun hHeld => ?_); refine with_tabW calamusref33_Read.tab13 calamusref33_Read.bits13 (fun HT_ HW_ => ?_)
                     generalize w44.drew = w45 at BK193 HI195 HB hHeld ⊢
                     refine pp_ (i := 0) (N := some 64) #[true, false, false, false, false, false, false, false, false, false, false, false] rfl rfl (any_of HT_.out (by kernel_rfl)) (h := ?_)
                     refine pp_ (i := 3) (N := some 67) #[true, false, false, true, false, false, false, false, false, false, false, false] rfl rfl (any_of HT_.out (by kernel_rfl)) (h := ?_)
                     refine pp_ (i := 4) (N := some 68) #[true, false, false, true, true, false, false, false, false, false, false, false] rfl rfl (any_of HT_.out (by kernel_rfl)) (h := ?_)
                     refine pp_ (i := 5) (N := some 69) #[true, false, false, true, true, true, false, false, false, false, false, false] rfl rfl (any_of HT_.out (by kernel_rfl)) (h := ?_)
                     refine pp_ (i := 6) (N := some 70) #[true, false, false, true, true, true, true, false, false, false, false, false] rfl rfl (any_of HT_.out (by kernel_rfl)) (h := ?_)
                     refine pp_ (i := 7) (N := some 71) #[true, false, false, true, true, true, true, true, false, false, false, false] rfl rfl (any_of HT_.out (by kernel_rfl)) (h := ?_)
                     refine pp_ (i := 8) (N := some 72) #[true, false, false, true, true, true, true, true, true, false, false, false] rfl rfl (any_of HT_.out (by kernel_rfl)) (h := ?_)
                     refine take_ (i := 1) (N := some 65) (v := ?_) (a' := ?_) #[true, true, false, true, true, true, true, true, true, false, false, false] rfl rfl (take_ofW HT_.out HW_.out (by kernel_rfl)) (fun _ _ _ h => h) (Or.inl ⟨by rfl, ?_⟩) hHeld ?_ ?_
                     rotate_left
                     ·intro w' _
                      go_simp
                      with_reducible rfl
                     rotate_left
                     ·simp only [Act.put, List.setIfInBounds_toArray, List.set_cons_zero, List.set_cons_succ, i64_w, i32_w]
                      rfl
                     refine pp_ (i := 2) (N := some 66) #[true, true, true, true, true, true, true, true, true, false, false, false] rfl rfl (any_of HT_.out (by kernel_rfl)) (h := ?_)
                     refine pp_ (i := 9) (N := some 73) #[true, true, true, true, true, true, true, true, true, true, false, false] rfl rfl (any_of HT_.out (by kernel_rfl)) (h := ?_)
                     refine one_ (i := 10) (N := some 9) #[true, true, true, true, true, true, true, true, true, true, true, false] rfl rfl (one_of HT_.out (by kernel_rfl)) (by decide) (fun K hK => ?_)
                     refine box_step ?hg (N := 9) ?hd (cs := #[.int .i64 0, .int .i64 0, .int .i64 0, .string (⟨#[]⟩ : ByteArray)]) (t := 26) ?hr ?_; (case hd => rfl); (case hg => rfl); (case hr => first | (go_simp; done) | (go_simp; rfl))
                     intro gb202 hg w46 hbox hb
                     have n0_ := bb_ BK193 hb
                     have n1_ := Aside0.mk (IsS61.below (by repeat (first | (with_reducible first | exact HI195.out | apply IsS61.alloc | apply IsS61.drewN | apply IsS61.drew | apply IsS61.set_0 | apply IsS61.set_1 | refine IsS61.far ?_ NB195_193.out _) | exact HI195.out)) hb)
                     have n2_ := Aside0.mk (below_step (by repeat (first | (with_reducible first | exact HB.out | apply below_alloc | apply pw_below_drewN | apply below_drew1 | refine below_set ?_ (IsS61.ge HI195.out) | refine below_set ?_ GE193.out) | exact HB.out)) hb)
                     have n3_ := Aside0.mk (hbox)
                     have n4_ := Aside0.mk ((by rw [hg]; exact (below_size (by repeat (first | (with_reducible first | exact HB.out | apply below_alloc | apply pw_below_drewN | apply below_drew1 | refine below_set ?_ (IsS61.ge HI195.out) | refine below_set ?_ GE193.out) | exact HB.out))) : w.heap.size ≤ gb202))
                     have n5_ := Aside0.mk ((by rw [hg]; exact (below_size (by repeat (first | (with_reducible first | exact HB.out | apply below_alloc | apply pw_below_drewN | apply below_drew1 | refine below_set ?_ (IsS61.ge HI195.out) | refine below_set ?_ GE193.out) | exact HB.out))) : w.heap.size ≤ gb202))
                     have n6_ := ne_ BK193 hg
                     have n7_ := en_ BK193 hg
                     have n8_ := Aside0.mk ((by rw [hg]; exact Nat.ne_of_lt (IsS61.lt (show IsS61 w _ gb195 t200 t201 from by repeat (first | (with_reducible first | exact HI195.out | apply IsS61.alloc | apply IsS61.drewN | apply IsS61.drew | apply IsS61.set_0 | apply IsS61.set_1 | refine IsS61.far ?_ NB195_193.out _) | exact HI195.out))) : gb195 ≠ gb202))
                     have n9_ := Aside0.mk ((by rw [hg]; exact Nat.ne_of_gt (IsS61.lt (show IsS61 w _ gb195 t200 t201 from by repeat (first | (with_reducible first | exact HI195.out | apply IsS61.alloc | apply IsS61.drewN | apply IsS61.drew | apply IsS61.set_0 | apply IsS61.set_1 | refine IsS61.far ?_ NB195_193.out _) | exact HI195.out))) : gb202 ≠ gb195))
                     clear BK193
                     clear HI195
                     clear HB
                     have BK193 := n0_
                     have HI195 := n1_
                     have HB := n2_
                     have BK202 := n3_
                     have GW202 := n4_
                     have GE202 := n5_
                     have NB193_202 := n6_
                     have NB202_193 := n7_
                     have NB195_202 := n8_
                     have NB202_195 := n9_
                     clear n0_ n1_ n2_ n3_ n4_ n5_ n6_ n7_ n8_ n9_
                     clear hb hbox hg
                     refine hK.out _ _ trivial (fun hHeld => ?_)
                     clear hK K
                     refine norm_ (a' := ?_) ?_ ?_
                     rotate_left
                     ·show Act.put _ (some 9) _ = _
                      simp only [Act.put, List.setIfInBounds_toArray, List.set_cons_zero, List.set_cons_succ, i64_w, i32_w]
                      rfl
                     refine one_ (i := 11) (N := none) #[true, true, true, true, true, true, true, true, true, true, true, true] rfl rfl (one_of HT_.out (by kernel_rfl)) (by decide) (fun K hK => ?_)
                     have hs47 : w46.cell? ⟨gb202, 0, none⟩ = some (.int .i64 0) := (blk_cell BK202.out 0).trans rfl
                     have hfs47 := blk_frozen BK202.out 0
                     have hns47_0 := NB193_202.out
                     have hms47_0 := NB202_193.out
                     have hs48 : w46.cell? ⟨gb202, 1, none⟩ = some (.int .i64 0) := (blk_cell BK202.out 1).trans rfl
                     have hfs48 := blk_frozen BK202.out 1
                     have hns48_0 := NB193_202.out
                     have hms48_0 := NB202_193.out
                     have hs49 : w46.cell? ⟨gb202, 2, none⟩ = some (.int .i64 0) := (blk_cell BK202.out 2).trans rfl
                     have hfs49 := blk_frozen BK202.out 2
                     have hns49_0 := NB193_202.out
                     have hms49_0 := NB202_193.out
                     have hs50 : w46.cell? ⟨gb202, 3, none⟩ = some (.string (⟨#[]⟩ : ByteArray)) := (blk_cell BK202.out 3).trans rfl
                     have hfs50 := blk_frozen BK202.out 3
                     have hns50_0 := NB193_202.out
                     have hms50_0 := NB202_193.out
                     refine skip_ (w1 := ?_) (by rfl) rfl ?_ ?_
                     rotate_left
                     ·go_simp
                      rfl
                     refine hK.out _ _ trivial (fun hHeld => ?_)
                     clear hK K
                     refine done_ (done_of HT_.out (by kernel_rfl)) ?_
                     have hnb51 := NB195_193.out
                     have hnc51 := NB193_195.out
                     have hnb52 := NB195_202.out
                     have hnc52 := NB202_195.out
                     obtain ⟨HGz53, hgz53⟩ := HI195.out
                     have hcz53_0 := cellS61_0 HGz53
                     have hcz53_1 := cellS61_1 HGz53
                     have hfz53_0 := blk_frozen HGz53 0
                     have hfz53_1 := blk_frozen HGz53 1
                     clear HGz53 hgz53
                     have hnb54 := NB202_193.out
                     have hnc54 := NB193_202.out
                     obtain ⟨hcz55_0, hcz55_1, hcz55_2, hcz55_3, hfz55_0, hfz55_1, hfz55_2, hfz55_3⟩ := bc4_ BK202
                     try go_wp2_with (first | (go_at_call 21; (with_reducible refine (calamusref33_Right.calls (wrap64 (bt a0 4)) t196 t199 (a0.extract 13 ((ji21) : Int).toNat) true _ A38.out).mono ?_); rintro e w56 ⟨rfl, hb⟩; replace BK193 := Aside0.mk (blk_below (g := gb193) (o := .cells #[.int .i64 0, .int .i64 0, .int .i64 0, .string (⟨#[]⟩ : ByteArray)] 26 (0, 0)) (bp_ BK193.out) hb); replace BK202 := Aside0.mk (blk_below (g := gb202) (o := .cells #[.int .i64 (wrap64 (bt a0 4)), .int .i64 t196, .int .i64 t199, .string (a0.extract 13 ((ji21) : Int).toNat)] 26 (0, 0)) (bp_ BK202.out) hb); replace HB := Aside0.mk (below_step (by repeat (first | (with_reducible first | exact HB.out | apply below_alloc | apply pw_below_drewN | apply below_drew1 | refine below_set ?_ (IsS61.ge HI195.out) | refine below_set ?_ GE193.out | refine below_set ?_ GE202.out) | exact HB.out)) hb); replace HI195 := Aside0.mk (IsS61.below (show IsS61 w ((((w46.setCell ⟨gb202, 0, none⟩ (.int .i64 (wrap64 (bt a0 4)))).setCell ⟨gb202, 1, none⟩ (.int .i64 t196)).setCell ⟨gb202, 2, none⟩ (.int .i64 t199)).setCell ⟨gb202, 3, none⟩ (.string (a0.extract 13 ((ji21) : Int).toNat))) gb195 t200 t201 from by repeat (first | (with_reducible first | exact HI195.out | apply IsS61.alloc | apply IsS61.drewN | apply IsS61.drew | apply IsS61.set_0 | apply IsS61.set_1 | refine IsS61.far ?_ NB195_193.out _ | refine IsS61.far ?_ NB195_202.out _) | exact HI195.out)) hb); (try clear hb); (try clear hb2); (try clear hk); (try clear hi); obtain ⟨hcz57_0, hcz57_1, hcz57_2, hcz57_3, hfz57_0, hfz57_1, hfz57_2, hfz57_3⟩ := bc4_ BK202; obtain ⟨hcz58_0, hcz58_1, hcz58_2, hcz58_3, hfz58_0, hfz58_1, hfz58_2, hfz58_3⟩ := bc4_ BK193))
                     refine bodyPost_ret (results_ctt rfl _ _ gb193 26 #[.int .i64 (wrap64 (bt a0 4)), .int .i64 t196, .int .i64 t199, .string (a0.extract 13 ((ji21) : Int).toNat)] (0, 0) _ rfl (bp_ BK193.out) Try.underlying26 rfl (by kernel_rfl)) rfl ?_
                     exact ⟨by first | rfl | (simp [errW_none, errW_some] <;> rfl) | (simp only [← hji21, ← hji25]; first | rfl | (simp [errW_none, errW_some] <;> rfl)) | (simp [*, errW_none, errW_some] <;> rfl), by repeat (first | (with_reducible first | exact HB.out | apply below_alloc | apply pw_below_drewN | apply below_drew1 | refine below_set ?_ (IsS61.ge HI195.out) | refine below_set ?_ GE193.out | refine below_set ?_ GE202.out) | exact HB.out)⟩
                    ·replace c39 := Bool.eq_false_iff.mpr c39
                     subst c39
                     have H1 : (some (0, 0, 0, (⟨#[]⟩ : ByteArray), 0, 3)) = some (r1, r2, r3, r4, r5, r6) := by rw [if_neg (show ¬ (false = true) by decide)] at H; exact H
                     clear H
                     have H := H1
                     clear H1
                     simp only [Option.some.injEq, Prod.mk.injEq] at H
                     obtain ⟨rfl, rfl, rfl, rfl, rfl, rfl⟩ := H
                     try go_wp2
                     have n0_ := Aside0.mk (blk_drew BK193.out)
                     have n1_ := Aside0.mk (below_drew1 HB.out)
                     clear BK193
                     clear HB
                     have BK193 := n0_
                     have HB := n1_
                     clear n0_ n1_
                     refine start_ (n := 10) (S := fun w' => True) (ds := []) #[false, false, false, false, false, false, false, false, false, false] (by kernel_rfl) rfl rfl trivial (fun hHeld => ?_); refine with_tabW calamusref33_Read.tab8 calamusref33_Read.bits8 (fun HT_ HW_ => ?_)
                     generalize wc.drew = w59 at BK193 HB hHeld ⊢
                     refine pp_ (i := 0) (N := some 45) #[true, false, false, false, false, false, false, false, false, false] rfl rfl (any_of HT_.out (by kernel_rfl)) (h := ?_)
                     refine pp_ (i := 1) (N := some 46) #[true, true, false, false, false, false, false, false, false, false] rfl rfl (any_of HT_.out (by kernel_rfl)) (h := ?_)
                     refine pp_ (i := 2) (N := some 47) #[true, true, true, false, false, false, false, false, false, false] rfl rfl (any_of HT_.out (by kernel_rfl)) (h := ?_)
                     refine pp_ (i := 3) (N := some 48) #[true, true, true, true, false, false, false, false, false, false] rfl rfl (any_of HT_.out (by kernel_rfl)) (h := ?_)
                     refine pp_ (i := 5) (N := some 50) #[true, true, true, true, false, true, false, false, false, false] rfl rfl (any_of HT_.out (by kernel_rfl)) (h := ?_)
                     refine pp_ (i := 6) (N := some 51) #[true, true, true, true, false, true, true, false, false, false] rfl rfl (any_of HT_.out (by kernel_rfl)) (h := ?_)
                     refine pp_ (i := 7) (N := some 52) #[true, true, true, true, false, true, true, true, false, false] rfl rfl (any_of HT_.out (by kernel_rfl)) (h := ?_)
                     refine pp_ (i := 8) (N := some 53) #[true, true, true, true, false, true, true, true, true, false] rfl rfl (any_of HT_.out (by kernel_rfl)) (h := ?_)
                     refine one_ (i := 4) (N := some 49) #[true, true, true, true, true, true, true, true, true, false] rfl rfl (one_of HT_.out (by kernel_rfl)) (by decide) (fun K hK => ?_)
                     refine goes_ Try.func58 (by kernel_rfl) rfl #[.string (a0.extract 0 ((ji21) : Int).toNat)] (by rfl) rfl rfl (by (try simp only [List.map_toArray, List.map_cons, List.map_nil]); first | done | (simp only [hji21]; rfl) | rfl | (simp only [List.length_drop, List.length_take]; rfl)) ?_
                     with_reducible refine (calamusref02_Seal.calls kj12 (a0.extract 0 ((ji21) : Int).toNat) t194 _ A24.out).mono ?_
                     rintro e w60 ⟨rfl, hb⟩
                     refine ⟨_, rfl, ?_⟩
                     have n0_ := bb_ BK193 hb
                     have n1_ := bs_ HB hb
                     clear BK193
                     clear HB
                     have BK193 := n0_
                     have HB := n1_
                     clear n0_ n1_
                     (try clear hb)
                     (try clear hb2)
                     (try clear hk)
                     (try clear hi)
                     refine hK.out _ _ trivial (fun hHeld => ?_)
                     clear hK K
                     refine norm_ (a' := ?_) ?_ ?_
                     rotate_left
                     ·show Act.put _ (some 49) _ = _
                      simp only [Act.put, List.setIfInBounds_toArray, List.set_cons_zero, List.set_cons_succ, i64_w, i32_w]
                      rfl
                     refine pp_ (i := 9) (N := some 54) #[true, true, true, true, true, true, true, true, true, true] rfl rfl (any_of HT_.out (by kernel_rfl)) (h := ?_)
                     refine done_ (done_of HT_.out (by kernel_rfl)) ?_
                     try go_wp2_with (first | ((with_reducible refine gate_dst (N := 59) rfl ?_); refine be_ (N := 59) (cs := #[.string (a0.extract 5 13), .int .i64 0]) (t := 61) (h := ?_); intro gb195 hg w61 hbox hb; have HI195 := Aside0.mk ((⟨hbox, (by rw [hg]; exact (below_size (hb_ HB)) : w.heap.size ≤ gb195)⟩ : IsS61 w w61 gb195 (a0.extract 5 13) 0)); have GW195 := gw_ HB hg; have GE195 := gw_ HB hg; have NB193_195 := ne_ BK193 hg; have NB195_193 := en_ BK193 hg; replace BK193 := bb_ BK193 hb; replace HB := bs_ HB hb; clear hb hbox hg) | ((with_reducible refine gate_callee (f := 61) rfl ?_); refine ge_ (some 61) rfl rfl Try.func61 (by kernel_rfl) rfl #[.pointer (some ⟨gb195, 0, none⟩)] rfl (h := ?_); (with_reducible refine (calamusref01_Reader_Num.calls gb195 (a0.extract 5 13) 0 t196 t197 t198 w _ ?side1 ?side2 A31.out).mono ?_); (case side1 => repeat (first | (with_reducible first | exact HI195.out | apply IsS61.alloc | apply IsS61.drewN | apply IsS61.drew | apply IsS61.set_0 | apply IsS61.set_1 | refine IsS61.far ?_ NB195_193.out _) | exact HI195.out)); (case side2 => repeat (first | (with_reducible first | exact HB.out | apply below_alloc | apply pw_below_drewN | apply below_drew1 | refine below_set ?_ (IsS61.ge HI195.out) | refine below_set ?_ GE193.out) | exact HB.out)); rintro e w62 ⟨rfl, hi, hb, hk⟩; refine ⟨_, rfl, ?_⟩; replace BK193 := Aside0.mk (KeepBut.blk hk (g' := gb193) (o := .cells #[.int .i64 0, .int .i64 0, .int .i64 0, .string (⟨#[]⟩ : ByteArray)] 26 (0, 0)) (bw_ BK193.out) NB193_195.out (by simp)); replace HB := Aside0.mk (hb); replace HI195 := Aside0.mk (hi); (try clear hb); (try clear hb2); (try clear hk); (try clear hi)) | ((with_reducible refine gate_callee (f := 61) rfl ?_); refine ge_ (some 63) rfl rfl Try.func61 (by kernel_rfl) rfl #[.pointer (some ⟨gb195, 0, none⟩)] rfl (h := ?_); (with_reducible refine (calamusref01_Reader_Num.calls gb195 t197 t198 t199 t200 t201 w _ ?side1 ?side2 A32.out).mono ?_); (case side1 => repeat (first | (with_reducible first | exact HI195.out | apply IsS61.alloc | apply IsS61.drewN | apply IsS61.drew | apply IsS61.set_0 | apply IsS61.set_1 | refine IsS61.far ?_ NB195_193.out _) | exact HI195.out)); (case side2 => repeat (first | (with_reducible first | exact HB.out | apply below_alloc | apply pw_below_drewN | apply below_drew1 | refine below_set ?_ (IsS61.ge HI195.out) | refine below_set ?_ GE193.out) | exact HB.out)); rintro e w63 ⟨rfl, hi, hb, hk⟩; refine ⟨_, rfl, ?_⟩; replace BK193 := Aside0.mk (KeepBut.blk hk (g' := gb193) (o := .cells #[.int .i64 0, .int .i64 0, .int .i64 0, .string (⟨#[]⟩ : ByteArray)] 26 (0, 0)) (bw_ BK193.out) NB193_195.out (by simp)); replace HB := Aside0.mk (hb); replace HI195 := Aside0.mk (hi); (try clear hb); (try clear hb2); (try clear hk); (try clear hi)))
                     have n0_ := Aside0.mk (blk_drew BK193.out)
                     have n1_ := Aside0.mk (IsS61.drew HI195.out)
                     have n2_ := Aside0.mk (below_drew1 HB.out)
                     clear BK193
                     clear HI195
                     clear HB
                     have BK193 := n0_
                     have HI195 := n1_
                     have HB := n2_
                     clear n0_ n1_ n2_
                     have p34 : 0 ≤ (4 : Int) := (by omega)
                     have q34 : 4 < a0.size := (by have : (4 : Int) < (a0.size : Int) := of_decide_eq_true as_; omega)
                     have hx34 : ∀ h : 4 < a0.size, ((a0[4]'h).toNat : Int) = bt a0 4 := bt_at a0 4
                     clear p34
                     have qi34 : (4 < (a0.size : Int)) = True := eq_true (of_decide_eq_true as_)
                     replace q34 := eq_true q34
                     refine start_ (n := 12) (S := fun w' => True) (ds := []) #[false, false, false, false, false, false, false, false, false, false, false, false] (by kernel_rfl) rfl rfl trivial (fun hHeld => ?_); refine with_tabW calamusref33_Read.tab13 calamusref33_Read.bits13 (fun HT_ HW_ => ?_)
                     generalize w63.drew = w64 at BK193 HI195 HB hHeld ⊢
                     refine pp_ (i := 0) (N := some 64) #[true, false, false, false, false, false, false, false, false, false, false, false] rfl rfl (any_of HT_.out (by kernel_rfl)) (h := ?_)
                     refine pp_ (i := 3) (N := some 67) #[true, false, false, true, false, false, false, false, false, false, false, false] rfl rfl (any_of HT_.out (by kernel_rfl)) (h := ?_)
                     refine pp_ (i := 4) (N := some 68) #[true, false, false, true, true, false, false, false, false, false, false, false] rfl rfl (any_of HT_.out (by kernel_rfl)) (h := ?_)
                     refine pp_ (i := 5) (N := some 69) #[true, false, false, true, true, true, false, false, false, false, false, false] rfl rfl (any_of HT_.out (by kernel_rfl)) (h := ?_)
                     refine pp_ (i := 6) (N := some 70) #[true, false, false, true, true, true, true, false, false, false, false, false] rfl rfl (any_of HT_.out (by kernel_rfl)) (h := ?_)
                     refine pp_ (i := 7) (N := some 71) #[true, false, false, true, true, true, true, true, false, false, false, false] rfl rfl (any_of HT_.out (by kernel_rfl)) (h := ?_)
                     refine pp_ (i := 8) (N := some 72) #[true, false, false, true, true, true, true, true, true, false, false, false] rfl rfl (any_of HT_.out (by kernel_rfl)) (h := ?_)
                     refine take_ (i := 1) (N := some 65) (v := ?_) (a' := ?_) #[true, true, false, true, true, true, true, true, true, false, false, false] rfl rfl (take_ofW HT_.out HW_.out (by kernel_rfl)) (fun _ _ _ h => h) (Or.inl ⟨by rfl, ?_⟩) hHeld ?_ ?_
                     rotate_left
                     ·intro w' _
                      go_simp
                      with_reducible rfl
                     rotate_left
                     ·simp only [Act.put, List.setIfInBounds_toArray, List.set_cons_zero, List.set_cons_succ, i64_w, i32_w]
                      rfl
                     refine pp_ (i := 2) (N := some 66) #[true, true, true, true, true, true, true, true, true, false, false, false] rfl rfl (any_of HT_.out (by kernel_rfl)) (h := ?_)
                     refine pp_ (i := 9) (N := some 73) #[true, true, true, true, true, true, true, true, true, true, false, false] rfl rfl (any_of HT_.out (by kernel_rfl)) (h := ?_)
                     refine one_ (i := 10) (N := some 9) #[true, true, true, true, true, true, true, true, true, true, true, false] rfl rfl (one_of HT_.out (by kernel_rfl)) (by decide) (fun K hK => ?_)
                     refine box_step ?hg (N := 9) ?hd (cs := #[.int .i64 0, .int .i64 0, .int .i64 0, .string (⟨#[]⟩ : ByteArray)]) (t := 26) ?hr ?_; (case hd => rfl); (case hg => rfl); (case hr => first | (go_simp; done) | (go_simp; rfl))
                     intro gb202 hg w65 hbox hb
                     have n0_ := bb_ BK193 hb
                     have n1_ := Aside0.mk (IsS61.below (by repeat (first | (with_reducible first | exact HI195.out | apply IsS61.alloc | apply IsS61.drewN | apply IsS61.drew | apply IsS61.set_0 | apply IsS61.set_1 | refine IsS61.far ?_ NB195_193.out _) | exact HI195.out)) hb)
                     have n2_ := Aside0.mk (below_step (by repeat (first | (with_reducible first | exact HB.out | apply below_alloc | apply pw_below_drewN | apply below_drew1 | refine below_set ?_ (IsS61.ge HI195.out) | refine below_set ?_ GE193.out) | exact HB.out)) hb)
                     have n3_ := Aside0.mk (hbox)
                     have n4_ := Aside0.mk ((by rw [hg]; exact (below_size (by repeat (first | (with_reducible first | exact HB.out | apply below_alloc | apply pw_below_drewN | apply below_drew1 | refine below_set ?_ (IsS61.ge HI195.out) | refine below_set ?_ GE193.out) | exact HB.out))) : w.heap.size ≤ gb202))
                     have n5_ := Aside0.mk ((by rw [hg]; exact (below_size (by repeat (first | (with_reducible first | exact HB.out | apply below_alloc | apply pw_below_drewN | apply below_drew1 | refine below_set ?_ (IsS61.ge HI195.out) | refine below_set ?_ GE193.out) | exact HB.out))) : w.heap.size ≤ gb202))
                     have n6_ := ne_ BK193 hg
                     have n7_ := en_ BK193 hg
                     have n8_ := Aside0.mk ((by rw [hg]; exact Nat.ne_of_lt (IsS61.lt (show IsS61 w _ gb195 t200 t201 from by repeat (first | (with_reducible first | exact HI195.out | apply IsS61.alloc | apply IsS61.drewN | apply IsS61.drew | apply IsS61.set_0 | apply IsS61.set_1 | refine IsS61.far ?_ NB195_193.out _) | exact HI195.out))) : gb195 ≠ gb202))
                     have n9_ := Aside0.mk ((by rw [hg]; exact Nat.ne_of_gt (IsS61.lt (show IsS61 w _ gb195 t200 t201 from by repeat (first | (with_reducible first | exact HI195.out | apply IsS61.alloc | apply IsS61.drewN | apply IsS61.drew | apply IsS61.set_0 | apply IsS61.set_1 | refine IsS61.far ?_ NB195_193.out _) | exact HI195.out))) : gb202 ≠ gb195))
                     clear BK193
                     clear HI195
                     clear HB
                     have BK193 := n0_
                     have HI195 := n1_
                     have HB := n2_
                     have BK202 := n3_
                     have GW202 := n4_
                     have GE202 := n5_
                     have NB193_202 := n6_
                     have NB202_193 := n7_
                     have NB195_202 := n8_
                     have NB202_195 := n9_
                     clear n0_ n1_ n2_ n3_ n4_ n5_ n6_ n7_ n8_ n9_
                     clear hb hbox hg
                     refine hK.out _ _ trivial (fun hHeld => ?_)
                     clear hK K
                     refine norm_ (a' := ?_) ?_ ?_
                     rotate_left
                     ·show Act.put _ (some 9) _ = _
                      simp only [Act.put, List.setIfInBounds_toArray, List.set_cons_zero, List.set_cons_succ, i64_w, i32_w]
                      rfl
                     refine one_ (i := 11) (N := none) #[true, true, true, true, true, true, true, true, true, true, true, true] rfl rfl (one_of HT_.out (by kernel_rfl)) (by decide) (fun K hK => ?_)
                     have hs66 : w65.cell? ⟨gb202, 0, none⟩ = some (.int .i64 0) := (blk_cell BK202.out 0).trans rfl
                     have hfs66 := blk_frozen BK202.out 0
                     have hns66_0 := NB193_202.out
                     have hms66_0 := NB202_193.out
                     have hs67 : w65.cell? ⟨gb202, 1, none⟩ = some (.int .i64 0) := (blk_cell BK202.out 1).trans rfl
                     have hfs67 := blk_frozen BK202.out 1
                     have hns67_0 := NB193_202.out
                     have hms67_0 := NB202_193.out
                     have hs68 : w65.cell? ⟨gb202, 2, none⟩ = some (.int .i64 0) := (blk_cell BK202.out 2).trans rfl
                     have hfs68 := blk_frozen BK202.out 2
                     have hns68_0 := NB193_202.out
                     have hms68_0 := NB202_193.out
                     have hs69 : w65.cell? ⟨gb202, 3, none⟩ = some (.string (⟨#[]⟩ : ByteArray)) := (blk_cell BK202.out 3).trans rfl
                     have hfs69 := blk_frozen BK202.out 3
                     have hns69_0 := NB193_202.out
                     have hms69_0 := NB202_193.out
                     refine skip_ (w1 := ?_) (by rfl) rfl ?_ ?_
                     rotate_left
                     ·go_simp
                      rfl
                     refine hK.out _ _ trivial (fun hHeld => ?_)
                     clear hK K
                     refine done_ (done_of HT_.out (by kernel_rfl)) ?_
                     have hnb70 := NB195_193.out
                     have hnc70 := NB193_195.out
                     have hnb71 := NB195_202.out
                     have hnc71 := NB202_195.out
                     obtain ⟨HGz72, hgz72⟩ := HI195.out
                     have hcz72_0 := cellS61_0 HGz72
                     have hcz72_1 := cellS61_1 HGz72
                     have hfz72_0 := blk_frozen HGz72 0
                     have hfz72_1 := blk_frozen HGz72 1
                     clear HGz72 hgz72
                     have hnb73 := NB202_193.out
                     have hnc73 := NB193_202.out
                     obtain ⟨hcz74_0, hcz74_1, hcz74_2, hcz74_3, hfz74_0, hfz74_1, hfz74_2, hfz74_3⟩ := bc4_ BK202
                     try go_wp2_with (first | (go_at_call 21; (with_reducible refine (calamusref33_Right.calls (wrap64 (bt a0 4)) t196 t199 (a0.extract 13 ((ji21) : Int).toNat) false _ A38.out).mono ?_); rintro e w75 ⟨rfl, hb⟩; replace BK193 := Aside0.mk (blk_below (g := gb193) (o := .cells #[.int .i64 0, .int .i64 0, .int .i64 0, .string (⟨#[]⟩ : ByteArray)] 26 (0, 0)) (bp_ BK193.out) hb); replace BK202 := Aside0.mk (blk_below (g := gb202) (o := .cells #[.int .i64 (wrap64 (bt a0 4)), .int .i64 t196, .int .i64 t199, .string (a0.extract 13 ((ji21) : Int).toNat)] 26 (0, 0)) (bp_ BK202.out) hb); replace HB := Aside0.mk (below_step (by repeat (first | (with_reducible first | exact HB.out | apply below_alloc | apply pw_below_drewN | apply below_drew1 | refine below_set ?_ (IsS61.ge HI195.out) | refine below_set ?_ GE193.out | refine below_set ?_ GE202.out) | exact HB.out)) hb); replace HI195 := Aside0.mk (IsS61.below (show IsS61 w ((((w65.setCell ⟨gb202, 0, none⟩ (.int .i64 (wrap64 (bt a0 4)))).setCell ⟨gb202, 1, none⟩ (.int .i64 t196)).setCell ⟨gb202, 2, none⟩ (.int .i64 t199)).setCell ⟨gb202, 3, none⟩ (.string (a0.extract 13 ((ji21) : Int).toNat))) gb195 t200 t201 from by repeat (first | (with_reducible first | exact HI195.out | apply IsS61.alloc | apply IsS61.drewN | apply IsS61.drew | apply IsS61.set_0 | apply IsS61.set_1 | refine IsS61.far ?_ NB195_193.out _ | refine IsS61.far ?_ NB195_202.out _) | exact HI195.out)) hb); (try clear hb); (try clear hb2); (try clear hk); (try clear hi); obtain ⟨hcz76_0, hcz76_1, hcz76_2, hcz76_3, hfz76_0, hfz76_1, hfz76_2, hfz76_3⟩ := bc4_ BK193))
                     refine bodyPost_ret (results_ctt rfl _ _ gb193 26 #[.int .i64 0, .int .i64 0, .int .i64 0, .string (⟨#[]⟩ : ByteArray)] (0, 0) _ rfl (bp_ BK193.out) Try.underlying26 rfl (by kernel_rfl)) rfl ?_
                     exact ⟨by first | rfl | (simp [errW_none, errW_some] <;> rfl) | (simp only [← hji21, ← hji25]; first | rfl | (simp [errW_none, errW_some] <;> rfl)) | (simp [*, errW_none, errW_some] <;> rfl), by repeat (first | (with_reducible first | exact HB.out | apply below_alloc | apply pw_below_drewN | apply below_drew1 | refine below_set ?_ (IsS61.ge HI195.out) | refine below_set ?_ GE193.out | refine below_set ?_ GE202.out) | exact HB.out)⟩
                   ·rw [if_neg c37] at H
                    have c37b0 : (t201 == 0) = false := beq_eq_false_iff_ne.mpr c37
                    have c37b1 : (t201 != 0) = true := bne_iff_ne.mpr c37
                    simp only [Option.some.injEq, Prod.mk.injEq] at H
                    obtain ⟨rfl, rfl, rfl, rfl, rfl, rfl⟩ := H
                    try go_wp2
                    have n0_ := Aside0.mk (blk_drew BK193.out)
                    have n1_ := Aside0.mk (below_drew1 HB.out)
                    clear BK193
                    clear HB
                    have BK193 := n0_
                    have HB := n1_
                    clear n0_ n1_
                    refine start_ (n := 10) (S := fun w' => True) (ds := []) #[false, false, false, false, false, false, false, false, false, false] (by kernel_rfl) rfl rfl trivial (fun hHeld => ?_); refine with_tabW calamusref33_Read.tab8 calamusref33_Read.bits8 (fun HT_ HW_ => ?_)
                    generalize wc.drew = w77 at BK193 HB hHeld ⊢
                    refine pp_ (i := 0) (N := some 45) #[true, false, false, false, false, false, false, false, false, false] rfl rfl (any_of HT_.out (by kernel_rfl)) (h := ?_)
                    refine pp_ (i := 1) (N := some 46) #[true, true, false, false, false, false, false, false, false, false] rfl rfl (any_of HT_.out (by kernel_rfl)) (h := ?_)
                    refine pp_ (i := 2) (N := some 47) #[true, true, true, false, false, false, false, false, false, false] rfl rfl (any_of HT_.out (by kernel_rfl)) (h := ?_)
                    refine pp_ (i := 3) (N := some 48) #[true, true, true, true, false, false, false, false, false, false] rfl rfl (any_of HT_.out (by kernel_rfl)) (h := ?_)
                    refine pp_ (i := 5) (N := some 50) #[true, true, true, true, false, true, false, false, false, false] rfl rfl (any_of HT_.out (by kernel_rfl)) (h := ?_)
                    refine pp_ (i := 6) (N := some 51) #[true, true, true, true, false, true, true, false, false, false] rfl rfl (any_of HT_.out (by kernel_rfl)) (h := ?_)
                    refine pp_ (i := 7) (N := some 52) #[true, true, true, true, false, true, true, true, false, false] rfl rfl (any_of HT_.out (by kernel_rfl)) (h := ?_)
                    refine pp_ (i := 8) (N := some 53) #[true, true, true, true, false, true, true, true, true, false] rfl rfl (any_of HT_.out (by kernel_rfl)) (h := ?_)
                    refine one_ (i := 4) (N := some 49) #[true, true, true, true, true, true, true, true, true, false] rfl rfl (one_of HT_.out (by kernel_rfl)) (by decide) (fun K hK => ?_)
                    refine goes_ Try.func58 (by kernel_rfl) rfl #[.string (a0.extract 0 ((ji21) : Int).toNat)] (by rfl) rfl rfl (by (try simp only [List.map_toArray, List.map_cons, List.map_nil]); first | done | (simp only [hji21]; rfl) | rfl | (simp only [List.length_drop, List.length_take]; rfl)) ?_
                    with_reducible refine (calamusref02_Seal.calls kj12 (a0.extract 0 ((ji21) : Int).toNat) t194 _ A24.out).mono ?_
                    rintro e w78 ⟨rfl, hb⟩
                    refine ⟨_, rfl, ?_⟩
                    have n0_ := bb_ BK193 hb
                    have n1_ := bs_ HB hb
                    clear BK193
                    clear HB
                    have BK193 := n0_
                    have HB := n1_
                    clear n0_ n1_
                    (try clear hb)
                    (try clear hb2)
                    (try clear hk)
                    (try clear hi)
                    refine hK.out _ _ trivial (fun hHeld => ?_)
                    clear hK K
                    refine norm_ (a' := ?_) ?_ ?_
                    rotate_left
                    ·show Act.put _ (some 49) _ = _
                     simp only [Act.put, List.setIfInBounds_toArray, List.set_cons_zero, List.set_cons_succ, i64_w, i32_w]
                     rfl
                    refine pp_ (i := 9) (N := some 54) #[true, true, true, true, true, true, true, true, true, true] rfl rfl (any_of HT_.out (by kernel_rfl)) (h := ?_)
                    refine done_ (done_of HT_.out (by kernel_rfl)) ?_
                    try go_wp2_with (first | ((with_reducible refine gate_dst (N := 59) rfl ?_); refine be_ (N := 59) (cs := #[.string (a0.extract 5 13), .int .i64 0]) (t := 61) (h := ?_); intro gb195 hg w79 hbox hb; have HI195 := Aside0.mk ((⟨hbox, (by rw [hg]; exact (below_size (hb_ HB)) : w.heap.size ≤ gb195)⟩ : IsS61 w w79 gb195 (a0.extract 5 13) 0)); have GW195 := gw_ HB hg; have GE195 := gw_ HB hg; have NB193_195 := ne_ BK193 hg; have NB195_193 := en_ BK193 hg; replace BK193 := bb_ BK193 hb; replace HB := bs_ HB hb; clear hb hbox hg) | ((with_reducible refine gate_callee (f := 61) rfl ?_); refine ge_ (some 61) rfl rfl Try.func61 (by kernel_rfl) rfl #[.pointer (some ⟨gb195, 0, none⟩)] rfl (h := ?_); (with_reducible refine (calamusref01_Reader_Num.calls gb195 (a0.extract 5 13) 0 t196 t197 t198 w _ ?side1 ?side2 A31.out).mono ?_); (case side1 => repeat (first | (with_reducible first | exact HI195.out | apply IsS61.alloc | apply IsS61.drewN | apply IsS61.drew | apply IsS61.set_0 | apply IsS61.set_1 | refine IsS61.far ?_ NB195_193.out _) | exact HI195.out)); (case side2 => repeat (first | (with_reducible first | exact HB.out | apply below_alloc | apply pw_below_drewN | apply below_drew1 | refine below_set ?_ (IsS61.ge HI195.out) | refine below_set ?_ GE193.out) | exact HB.out)); rintro e w80 ⟨rfl, hi, hb, hk⟩; refine ⟨_, rfl, ?_⟩; replace BK193 := Aside0.mk (KeepBut.blk hk (g' := gb193) (o := .cells #[.int .i64 0, .int .i64 0, .int .i64 0, .string (⟨#[]⟩ : ByteArray)] 26 (0, 0)) (bw_ BK193.out) NB193_195.out (by simp)); replace HB := Aside0.mk (hb); replace HI195 := Aside0.mk (hi); (try clear hb); (try clear hb2); (try clear hk); (try clear hi)) | ((with_reducible refine gate_callee (f := 61) rfl ?_); refine ge_ (some 63) rfl rfl Try.func61 (by kernel_rfl) rfl #[.pointer (some ⟨gb195, 0, none⟩)] rfl (h := ?_); (with_reducible refine (calamusref01_Reader_Num.calls gb195 t197 t198 t199 t200 t201 w _ ?side1 ?side2 A32.out).mono ?_); (case side1 => repeat (first | (with_reducible first | exact HI195.out | apply IsS61.alloc | apply IsS61.drewN | apply IsS61.drew | apply IsS61.set_0 | apply IsS61.set_1 | refine IsS61.far ?_ NB195_193.out _) | exact HI195.out)); (case side2 => repeat (first | (with_reducible first | exact HB.out | apply below_alloc | apply pw_below_drewN | apply below_drew1 | refine below_set ?_ (IsS61.ge HI195.out) | refine below_set ?_ GE193.out) | exact HB.out)); rintro e w81 ⟨rfl, hi, hb, hk⟩; refine ⟨_, rfl, ?_⟩; replace BK193 := Aside0.mk (KeepBut.blk hk (g' := gb193) (o := .cells #[.int .i64 0, .int .i64 0, .int .i64 0, .string (⟨#[]⟩ : ByteArray)] 26 (0, 0)) (bw_ BK193.out) NB193_195.out (by simp)); replace HB := Aside0.mk (hb); replace HI195 := Aside0.mk (hi); (try clear hb); (try clear hb2); (try clear hk); (try clear hi)))
                    have n0_ := Aside0.mk (blk_drew BK193.out)
                    have n1_ := Aside0.mk (IsS61.drew HI195.out)
                    have n2_ := Aside0.mk (below_drew1 HB.out)
                    clear BK193
                    clear HI195
                    clear HB
                    have BK193 := n0_
                    have HI195 := n1_
                    have HB := n2_
                    clear n0_ n1_ n2_
                    have p34 : 0 ≤ (4 : Int) := (by omega)
                    have q34 : 4 < a0.size := (by have : (4 : Int) < (a0.size : Int) := of_decide_eq_true as_; omega)
                    have hx34 : ∀ h : 4 < a0.size, ((a0[4]'h).toNat : Int) = bt a0 4 := bt_at a0 4
                    clear p34
                    have qi34 : (4 < (a0.size : Int)) = True := eq_true (of_decide_eq_true as_)
                    replace q34 := eq_true q34
                    refine start_ (n := 12) (S := fun w' => True) (ds := []) #[false, false, false, false, false, false, false, false, false, false, false, false] (by kernel_rfl) rfl rfl trivial (fun hHeld => ?_); refine with_tabW calamusref33_Read.tab13 calamusref33_Read.bits13 (fun HT_ HW_ => ?_)
                    generalize w81.drew = w82 at BK193 HI195 HB hHeld ⊢
                    refine pp_ (i := 0) (N := some 64) #[true, false, false, false, false, false, false, false, false, false, false, false] rfl rfl (any_of HT_.out (by kernel_rfl)) (h := ?_)
                    refine pp_ (i := 3) (N := some 67) #[true, false, false, true, false, false, false, false, false, false, false, false] rfl rfl (any_of HT_.out (by kernel_rfl)) (h := ?_)
                    refine pp_ (i := 4) (N := some 68) #[true, false, false, true, true, false, false, false, false, false, false, false] rfl rfl (any_of HT_.out (by kernel_rfl)) (h := ?_)
                    refine pp_ (i := 5) (N := some 69) #[true, false, false, true, true, true, false, false, false, false, false, false] rfl rfl (any_of HT_.out (by kernel_rfl)) (h := ?_)
                    refine pp_ (i := 6) (N := some 70) #[true, false, false, true, true, true, true, false, false, false, false, false] rfl rfl (any_of HT_.out (by kernel_rfl)) (h := ?_)
                    refine pp_ (i := 7) (N := some 71) #[true, false, false, true, true, true, true, true, false, false, false, false] rfl rfl (any_of HT_.out (by kernel_rfl)) (h := ?_)
                    refine pp_ (i := 8) (N := some 72) #[true, false, false, true, true, true, true, true, true, false, false, false] rfl rfl (any_of HT_.out (by kernel_rfl)) (h := ?_)
                    refine take_ (i := 1) (N := some 65) (v := ?_) (a' := ?_) #[true, true, false, true, true, true, true, true, true, false, false, false] rfl rfl (take_ofW HT_.out HW_.out (by kernel_rfl)) (fun _ _ _ h => h) (Or.inl ⟨by rfl, ?_⟩) hHeld ?_ ?_
                    rotate_left
                    ·intro w' _
                     go_simp
                     with_reducible rfl
                    rotate_left
                    ·simp only [Act.put, List.setIfInBounds_toArray, List.set_cons_zero, List.set_cons_succ, i64_w, i32_w]
                     rfl
                    refine pp_ (i := 2) (N := some 66) #[true, true, true, true, true, true, true, true, true, false, false, false] rfl rfl (any_of HT_.out (by kernel_rfl)) (h := ?_)
                    refine pp_ (i := 9) (N := some 73) #[true, true, true, true, true, true, true, true, true, true, false, false] rfl rfl (any_of HT_.out (by kernel_rfl)) (h := ?_)
                    refine one_ (i := 10) (N := some 9) #[true, true, true, true, true, true, true, true, true, true, true, false] rfl rfl (one_of HT_.out (by kernel_rfl)) (by decide) (fun K hK => ?_)
                    refine box_step ?hg (N := 9) ?hd (cs := #[.int .i64 0, .int .i64 0, .int .i64 0, .string (⟨#[]⟩ : ByteArray)]) (t := 26) ?hr ?_; (case hd => rfl); (case hg => rfl); (case hr => first | (go_simp; done) | (go_simp; rfl))
                    intro gb202 hg w83 hbox hb
                    have n0_ := bb_ BK193 hb
                    have n1_ := Aside0.mk (IsS61.below (by repeat (first | (with_reducible first | exact HI195.out | apply IsS61.alloc | apply IsS61.drewN | apply IsS61.drew | apply IsS61.set_0 | apply IsS61.set_1 | refine IsS61.far ?_ NB195_193.out _) | exact HI195.out)) hb)
                    have n2_ := Aside0.mk (below_step (by repeat (first | (with_reducible first | exact HB.out | apply below_alloc | apply pw_below_drewN | apply below_drew1 | refine below_set ?_ (IsS61.ge HI195.out) | refine below_set ?_ GE193.out) | exact HB.out)) hb)
                    have n3_ := Aside0.mk (hbox)
                    have n4_ := Aside0.mk ((by rw [hg]; exact (below_size (by repeat (first | (with_reducible first | exact HB.out | apply below_alloc | apply pw_below_drewN | apply below_drew1 | refine below_set ?_ (IsS61.ge HI195.out) | refine below_set ?_ GE193.out) | exact HB.out))) : w.heap.size ≤ gb202))
                    have n5_ := Aside0.mk ((by rw [hg]; exact (below_size (by repeat (first | (with_reducible first | exact HB.out | apply below_alloc | apply pw_below_drewN | apply below_drew1 | refine below_set ?_ (IsS61.ge HI195.out) | refine below_set ?_ GE193.out) | exact HB.out))) : w.heap.size ≤ gb202))
                    have n6_ := ne_ BK193 hg
                    have n7_ := en_ BK193 hg
                    have n8_ := Aside0.mk ((by rw [hg]; exact Nat.ne_of_lt (IsS61.lt (show IsS61 w _ gb195 t200 t201 from by repeat (first | (with_reducible first | exact HI195.out | apply IsS61.alloc | apply IsS61.drewN | apply IsS61.drew | apply IsS61.set_0 | apply IsS61.set_1 | refine IsS61.far ?_ NB195_193.out _) | exact HI195.out))) : gb195 ≠ gb202))
                    have n9_ := Aside0.mk ((by rw [hg]; exact Nat.ne_of_gt (IsS61.lt (show IsS61 w _ gb195 t200 t201 from by repeat (first | (with_reducible first | exact HI195.out | apply IsS61.alloc | apply IsS61.drewN | apply IsS61.drew | apply IsS61.set_0 | apply IsS61.set_1 | refine IsS61.far ?_ NB195_193.out _) | exact HI195.out))) : gb202 ≠ gb195))
                    clear BK193
                    clear HI195
                    clear HB
                    have BK193 := n0_
                    have HI195 := n1_
                    have HB := n2_
                    have BK202 := n3_
                    have GW202 := n4_
                    have GE202 := n5_
                    have NB193_202 := n6_
                    have NB202_193 := n7_
                    have NB195_202 := n8_
                    have NB202_195 := n9_
                    clear n0_ n1_ n2_ n3_ n4_ n5_ n6_ n7_ n8_ n9_
                    clear hb hbox hg
                    refine hK.out _ _ trivial (fun hHeld => ?_)
                    clear hK K
                    refine norm_ (a' := ?_) ?_ ?_
                    rotate_left
                    ·show Act.put _ (some 9) _ = _
                     simp only [Act.put, List.setIfInBounds_toArray, List.set_cons_zero, List.set_cons_succ, i64_w, i32_w]
                     rfl
                    refine one_ (i := 11) (N := none) #[true, true, true, true, true, true, true, true, true, true, true, true] rfl rfl (one_of HT_.out (by kernel_rfl)) (by decide) (fun K hK => ?_)
                    have hs84 : w83.cell? ⟨gb202, 0, none⟩ = some (.int .i64 0) := (blk_cell BK202.out 0).trans rfl
                    have hfs84 := blk_frozen BK202.out 0
                    have hns84_0 := NB193_202.out
                    have hms84_0 := NB202_193.out
                    have hs85 : w83.cell? ⟨gb202, 1, none⟩ = some (.int .i64 0) := (blk_cell BK202.out 1).trans rfl
                    have hfs85 := blk_frozen BK202.out 1
                    have hns85_0 := NB193_202.out
                    have hms85_0 := NB202_193.out
                    have hs86 : w83.cell? ⟨gb202, 2, none⟩ = some (.int .i64 0) := (blk_cell BK202.out 2).trans rfl
                    have hfs86 := blk_frozen BK202.out 2
                    have hns86_0 := NB193_202.out
                    have hms86_0 := NB202_193.out
                    have hs87 : w83.cell? ⟨gb202, 3, none⟩ = some (.string (⟨#[]⟩ : ByteArray)) := (blk_cell BK202.out 3).trans rfl
                    have hfs87 := blk_frozen BK202.out 3
                    have hns87_0 := NB193_202.out
                    have hms87_0 := NB202_193.out
                    refine skip_ (w1 := ?_) (by rfl) rfl ?_ ?_
                    rotate_left
                    ·go_simp
                     rfl
                    refine hK.out _ _ trivial (fun hHeld => ?_)
                    clear hK K
                    refine done_ (done_of HT_.out (by kernel_rfl)) ?_
                    have hnb88 := NB195_193.out
                    have hnc88 := NB193_195.out
                    have hnb89 := NB195_202.out
                    have hnc89 := NB202_195.out
                    obtain ⟨HGz90, hgz90⟩ := HI195.out
                    have hcz90_0 := cellS61_0 HGz90
                    have hcz90_1 := cellS61_1 HGz90
                    have hfz90_0 := blk_frozen HGz90 0
                    have hfz90_1 := blk_frozen HGz90 1
                    clear HGz90 hgz90
                    have hnb91 := NB193_202.out
                    have hnc91 := NB202_193.out
                    obtain ⟨hcz92_0, hcz92_1, hcz92_2, hcz92_3, hfz92_0, hfz92_1, hfz92_2, hfz92_3⟩ := bc4_ BK193
                    try go_wp2
                    refine bodyPost_ret (results_ctt rfl _ _ gb193 26 #[.int .i64 0, .int .i64 0, .int .i64 0, .string (⟨#[]⟩ : ByteArray)] (0, 0) _ rfl (bp_ BK193.out) Try.underlying26 rfl (by kernel_rfl)) rfl ?_
                    exact ⟨by first | rfl | (simp [errW_none, errW_some] <;> rfl) | (simp only [← hji21, ← hji25]; first | rfl | (simp [errW_none, errW_some] <;> rfl)) | (simp [*, errW_none, errW_some] <;> rfl), by repeat (first | (with_reducible first | exact HB.out | apply below_alloc | apply pw_below_drewN | apply below_drew1 | refine below_set ?_ (IsS61.ge HI195.out) | refine below_set ?_ GE193.out | refine below_set ?_ GE202.out) | exact HB.out)⟩
                  ·rw [if_neg c35] at H
                   exact absurd H (by simp)
                 ·rw [if_neg c33] at H
                  exact absurd H (by simp)
                ·rw [if_neg c30] at H
                 exact absurd H (by simp)
               ·rw [if_neg c29] at H
                exact absurd H (by simp)
              ·rw [if_neg c28] at H
               have c28b0 : (t194.toList == (a0.extract 0 ((ji25) : Int).toNat).toList) = false := beq_eq_false_iff_ne.mpr c28
               have c28b1 : (t194.toList != (a0.extract 0 ((ji25) : Int).toNat).toList) = true := bne_iff_ne.mpr c28
               simp only [Option.some.injEq, Prod.mk.injEq] at H
               obtain ⟨rfl, rfl, rfl, rfl, rfl, rfl⟩ := H
               try go_wp2
               have n0_ := Aside0.mk (blk_drew BK193.out)
               have n1_ := Aside0.mk (below_drew1 HB.out)
               clear BK193
               clear HB
               have BK193 := n0_
               have HB := n1_
               clear n0_ n1_
               refine start_ (n := 10) (S := fun w' => True) (ds := []) #[false, false, false, false, false, false, false, false, false, false] (by kernel_rfl) rfl rfl trivial (fun hHeld => ?_); refine with_tabW calamusref33_Read.tab8 calamusref33_Read.bits8 (fun HT_ HW_ => ?_)
               generalize wc.drew = w93 at BK193 HB hHeld ⊢
               refine pp_ (i := 0) (N := some 45) #[true, false, false, false, false, false, false, false, false, false] rfl rfl (any_of HT_.out (by kernel_rfl)) (h := ?_)
               refine pp_ (i := 1) (N := some 46) #[true, true, false, false, false, false, false, false, false, false] rfl rfl (any_of HT_.out (by kernel_rfl)) (h := ?_)
               refine pp_ (i := 2) (N := some 47) #[true, true, true, false, false, false, false, false, false, false] rfl rfl (any_of HT_.out (by kernel_rfl)) (h := ?_)
               refine pp_ (i := 3) (N := some 48) #[true, true, true, true, false, false, false, false, false, false] rfl rfl (any_of HT_.out (by kernel_rfl)) (h := ?_)
               refine pp_ (i := 5) (N := some 50) #[true, true, true, true, false, true, false, false, false, false] rfl rfl (any_of HT_.out (by kernel_rfl)) (h := ?_)
               refine pp_ (i := 6) (N := some 51) #[true, true, true, true, false, true, true, false, false, false] rfl rfl (any_of HT_.out (by kernel_rfl)) (h := ?_)
               refine pp_ (i := 7) (N := some 52) #[true, true, true, true, false, true, true, true, false, false] rfl rfl (any_of HT_.out (by kernel_rfl)) (h := ?_)
               refine pp_ (i := 8) (N := some 53) #[true, true, true, true, false, true, true, true, true, false] rfl rfl (any_of HT_.out (by kernel_rfl)) (h := ?_)
               refine one_ (i := 4) (N := some 49) #[true, true, true, true, true, true, true, true, true, false] rfl rfl (one_of HT_.out (by kernel_rfl)) (by decide) (fun K hK => ?_)
               refine goes_ Try.func58 (by kernel_rfl) rfl #[.string (a0.extract 0 ((ji21) : Int).toNat)] (by rfl) rfl rfl (by (try simp only [List.map_toArray, List.map_cons, List.map_nil]); first | done | (simp only [hji21]; rfl) | rfl | (simp only [List.length_drop, List.length_take]; rfl)) ?_
               with_reducible refine (calamusref02_Seal.calls kj12 (a0.extract 0 ((ji21) : Int).toNat) t194 _ A24.out).mono ?_
               rintro e w94 ⟨rfl, hb⟩
               refine ⟨_, rfl, ?_⟩
               have n0_ := bb_ BK193 hb
               have n1_ := bs_ HB hb
               clear BK193
               clear HB
               have BK193 := n0_
               have HB := n1_
               clear n0_ n1_
               (try clear hb)
               (try clear hb2)
               (try clear hk)
               (try clear hi)
               refine hK.out _ _ trivial (fun hHeld => ?_)
               clear hK K
               refine norm_ (a' := ?_) ?_ ?_
               rotate_left
               ·show Act.put _ (some 49) _ = _
                simp only [Act.put, List.setIfInBounds_toArray, List.set_cons_zero, List.set_cons_succ, i64_w, i32_w]
                rfl
               refine pp_ (i := 9) (N := some 54) #[true, true, true, true, true, true, true, true, true, true] rfl rfl (any_of HT_.out (by kernel_rfl)) (h := ?_)
               refine done_ (done_of HT_.out (by kernel_rfl)) ?_
               obtain ⟨hcz95_0, hcz95_1, hcz95_2, hcz95_3, hfz95_0, hfz95_1, hfz95_2, hfz95_3⟩ := bc4_ BK193
               try go_wp2
               refine bodyPost_ret (results_ctt rfl _ _ gb193 26 #[.int .i64 0, .int .i64 0, .int .i64 0, .string (⟨#[]⟩ : ByteArray)] (0, 0) _ rfl (bp_ BK193.out) Try.underlying26 rfl (by kernel_rfl)) rfl ?_
               exact ⟨by first | rfl | (simp [errW_none, errW_some] <;> rfl) | (simp only [← hji21, ← hji25]; first | rfl | (simp [errW_none, errW_some] <;> rfl)) | (simp [*, errW_none, errW_some] <;> rfl), hb_ HB⟩
             ·rw [if_neg c27] at H
              exact absurd H (by simp)
            ·rw [if_neg c26] at H
             exact absurd H (by simp)
           ·rw [if_neg c23] at H
            exact absurd H (by simp)
          ·rw [if_neg c22] at H
           exact absurd H (by simp)
     ·rw [if_neg c11] at H
      exact absurd H (by simp)
    ·rw [if_neg c9] at H
     exact absurd H (by simp)
   ·rw [if_neg c7] at H
    exact absurd H (by simp)
  ·rw [if_neg c5] at H
   exact absurd H (by simp)

end Go.Proofs.Ytealbonfaebikaa.PRecordReads
