/- Of the law calamus/calamuslaw33.RecordWrites: each function as a plain Lean function, with a proof that the call comes to it; the row. By wip/tpl/own_print.py. Conditions: none but the row's own. -/
import Derived.Test.YtealbonfaebikaaORecordWritesx0
import Derived.Test.YtealbonfaebikaaORecordWritesx3
import Derived.Test.YtealbonfaebikaaORecordWritesx5
namespace Go.Proofs.Ytealbonfaebikaa.PRecordWrites
open Go.RowKit Go.Proofs.YtealbonfaebikaaW.PrintWords Go.Proofs.YtealbonfaebikaaW.PrintLast Go.Proofs.YtealbonfaebikaaW.PrintMore
attribute [local go_sem] max2_int min2_int max_two min_two max_three min_three max_four min_four   -- for this text's walks alone
set_option linter.unusedVariables false
set_option linter.unusedSimpArgs false

/-! ### calamusref33_Bytes: function 23 -/
def calamusref33_Bytes.f (k : Nat) (a0_0 : Int) (a0_1 : Int) (a0_2 : Int) (a0_3 : ByteArray) : Option (ByteArray) := (calamusref33_Right.f a0_0 a0_1 a0_2 a0_3).bind fun t166 => (if t166 = true then ((some (([(a0_0) % 256] : List Int) : List Int)).bind fun y167 => ((calamusref01_Num.f a0_1).bind fun t170 => (if (strOfNums y167).size + t170.size ≤ 9223372036854775807 then ((calamusref01_Num.f a0_2).bind fun t171 => (if ((strOfNums y167) ++ t170).size + t171.size ≤ 9223372036854775807 then (if (((strOfNums y167) ++ t170) ++ t171).size + a0_3.size ≤ 9223372036854775807 then ((calamusref01_Num.f (((((strOfNums y167) ++ t170) ++ t171) ++ a0_3).size : Int)).bind fun t172 => (if t172.size + ((((strOfNums y167) ++ t170) ++ t171) ++ a0_3).size ≤ 9223372036854775807 then ((calamusref02_Seal.f k (t172 ++ ((((strOfNums y167) ++ t170) ++ t171) ++ a0_3))).bind fun t173 => (some t173)) else (none))) else (none)) else (none))) else (none)))) else (some (⟨#[]⟩ : ByteArray)))
theorem calamusref33_Bytes.mono : ∀ a0 a1 a2 a3 k, LeO (calamusref33_Bytes.f k a0 a1 a2 a3) (calamusref33_Bytes.f (k + 1) a0 a1 a2 a3) := by
 intro a0 a1 a2 a3 k
 unfold calamusref33_Bytes.f
 repeat' first
   | (with_reducible exact calamusref02_Seal.mono _ _)
   | (with_reducible exact LeO.refl _)
   | (with_reducible exact LeO.none _)
   | (with_reducible refine LeO.ite ?_ ?_)
   | (with_reducible refine LeO.bind ?_ (fun _ => ?_))
   | exact calamusref02_Seal.mono _ _
   | exact LeO.none _
   | refine LeO.ite ?_ ?_
   | refine LeO.bind ?_ (fun _ => ?_)
def calamusref33_Bytes.T3 : Bool × List (List Nat × List Nat) := (true, [([], []), ([0], [0]), ([1], [1]), ([2], [2]), ([3], [3]), ([], []), ([5], [5]), ([6], [6]), ([4, 7], [4, 7]), ([], []), ([9], [9]), ([10, 7], [10]), ([8, 11], [8, 11]), ([], []), ([13], [13]), ([12, 14], [12, 14]), ([15, 11, 0, 1, 2, 3, 4, 5, 6, 7, 8, 9, 10, 11, 12, 13, 14, 15], [15])])
def calamusref33_Bytes.B3 : List Nat := [0, 1, 3, 7, 15, 0, 32, 96, 255, 0, 512, 1760, 4095, 0, 8192, 32767, 65535]
theorem calamusref33_Bytes.tab3 : rtab .any (opsOf Try.f23 3) = calamusref33_Bytes.T3 := by kernel_rfl
theorem calamusref33_Bytes.bits3 : waitsOk calamusref33_Bytes.T3.2 calamusref33_Bytes.B3 = true := by kernel_rfl
set_option maxHeartbeats 8000000 in
set_option maxRecDepth 100000 in
theorem calamusref33_Bytes.calls (k : Nat) (a0_0 : Int) (a0_1 : Int) (a0_2 : Int) (a0_3 : ByteArray) (r : ByteArray) (w : World) (h : calamusref33_Bytes.f k a0_0 a0_1 a0_2 a0_3 = some r) :
  Calls Try.prog 23 #[.agg #[.int .i64 a0_0, .int .i64 a0_1, .int .i64 a0_2, .string a0_3]] w fun e w' => e = .returned (.string r) ∧ Below w.heap.size w w' := by
 have hu26 := Try.underlying26
 have HB := Aside0.mk (Below.refl w.heap.size w)
 have H : ((calamusref33_Right.f a0_0 a0_1 a0_2 a0_3).bind fun t166 => (if t166 = true then ((some (([(a0_0) % 256] : List Int) : List Int)).bind fun y167 => ((calamusref01_Num.f a0_1).bind fun t170 => (if (strOfNums y167).size + t170.size ≤ 9223372036854775807 then ((calamusref01_Num.f a0_2).bind fun t171 => (if ((strOfNums y167) ++ t170).size + t171.size ≤ 9223372036854775807 then (if (((strOfNums y167) ++ t170) ++ t171).size + a0_3.size ≤ 9223372036854775807 then ((calamusref01_Num.f (((((strOfNums y167) ++ t170) ++ t171) ++ a0_3).size : Int)).bind fun t172 => (if t172.size + ((((strOfNums y167) ++ t170) ++ t171) ++ a0_3).size ≤ 9223372036854775807 then ((calamusref02_Seal.f k (t172 ++ ((((strOfNums y167) ++ t170) ++ t171) ++ a0_3))).bind fun t173 => (some t173)) else (none))) else (none)) else (none))) else (none)))) else (some (⟨#[]⟩ : ByteArray)))) = some r := h
 clear h
 replace H := Option.bind_eq_some_iff.mp H
 obtain ⟨t166, A20, H⟩ := H
 replace H : (if t166 = true then ((some (([(a0_0) % 256] : List Int) : List Int)).bind fun y167 => ((calamusref01_Num.f a0_1).bind fun t170 => (if (strOfNums y167).size + t170.size ≤ 9223372036854775807 then ((calamusref01_Num.f a0_2).bind fun t171 => (if ((strOfNums y167) ++ t170).size + t171.size ≤ 9223372036854775807 then (if (((strOfNums y167) ++ t170) ++ t171).size + a0_3.size ≤ 9223372036854775807 then ((calamusref01_Num.f (((((strOfNums y167) ++ t170) ++ t171) ++ a0_3).size : Int)).bind fun t172 => (if t172.size + ((((strOfNums y167) ++ t170) ++ t171) ++ a0_3).size ≤ 9223372036854775807 then ((calamusref02_Seal.f k (t172 ++ ((((strOfNums y167) ++ t170) ++ t171) ++ a0_3))).bind fun t173 => (some t173)) else (none))) else (none)) else (none))) else (none)))) else (some (⟨#[]⟩ : ByteArray))) = some r := H
 have A2 := Aside0.mk A20
 clear A20
 by_cases c3 : t166 = true
 ·subst c3
  have H1 : ((some (([(a0_0) % 256] : List Int) : List Int)).bind fun y167 => ((calamusref01_Num.f a0_1).bind fun t170 => (if (strOfNums y167).size + t170.size ≤ 9223372036854775807 then ((calamusref01_Num.f a0_2).bind fun t171 => (if ((strOfNums y167) ++ t170).size + t171.size ≤ 9223372036854775807 then (if (((strOfNums y167) ++ t170) ++ t171).size + a0_3.size ≤ 9223372036854775807 then ((calamusref01_Num.f (((((strOfNums y167) ++ t170) ++ t171) ++ a0_3).size : Int)).bind fun t172 => (if t172.size + ((((strOfNums y167) ++ t170) ++ t171) ++ a0_3).size ≤ 9223372036854775807 then ((calamusref02_Seal.f k (t172 ++ ((((strOfNums y167) ++ t170) ++ t171) ++ a0_3))).bind fun t173 => (some t173)) else (none))) else (none)) else (none))) else (none)))) = some r := by rw [if_pos rfl] at H; exact H
  clear H
  have H := H1
  clear H1
  obtain ⟨y167, hy167⟩ : ∃ y_ : List Int, y_ = (([(a0_0) % 256] : List Int)) := ⟨_, rfl⟩
  replace H : ((calamusref01_Num.f a0_1).bind fun t170 => (if (strOfNums y167).size + t170.size ≤ 9223372036854775807 then ((calamusref01_Num.f a0_2).bind fun t171 => (if ((strOfNums y167) ++ t170).size + t171.size ≤ 9223372036854775807 then (if (((strOfNums y167) ++ t170) ++ t171).size + a0_3.size ≤ 9223372036854775807 then ((calamusref01_Num.f (((((strOfNums y167) ++ t170) ++ t171) ++ a0_3).size : Int)).bind fun t172 => (if t172.size + ((((strOfNums y167) ++ t170) ++ t171) ++ a0_3).size ≤ 9223372036854775807 then ((calamusref02_Seal.f k (t172 ++ ((((strOfNums y167) ++ t170) ++ t171) ++ a0_3))).bind fun t173 => (some t173)) else (none))) else (none)) else (none))) else (none))) = some r := th_ H hy167
  have Ny167 := Aside0.mk hy167
  clear hy167
  replace H := Option.bind_eq_some_iff.mp H
  obtain ⟨t170, A40, H⟩ := H
  replace H : (if (strOfNums y167).size + t170.size ≤ 9223372036854775807 then ((calamusref01_Num.f a0_2).bind fun t171 => (if ((strOfNums y167) ++ t170).size + t171.size ≤ 9223372036854775807 then (if (((strOfNums y167) ++ t170) ++ t171).size + a0_3.size ≤ 9223372036854775807 then ((calamusref01_Num.f (((((strOfNums y167) ++ t170) ++ t171) ++ a0_3).size : Int)).bind fun t172 => (if t172.size + ((((strOfNums y167) ++ t170) ++ t171) ++ a0_3).size ≤ 9223372036854775807 then ((calamusref02_Seal.f k (t172 ++ ((((strOfNums y167) ++ t170) ++ t171) ++ a0_3))).bind fun t173 => (some t173)) else (none))) else (none)) else (none))) else (none)) = some r := H
  have A4 := Aside0.mk A40
  clear A40
  by_cases c5 : (strOfNums y167).size + t170.size ≤ 9223372036854775807
  ·rw [if_pos c5] at H
   have c5b0 := eq_true c5
   try (have c5b0x := c5b0; simp only [ByteArray.size_extract, Nat.min_self] at c5b0x)
   have c5b1 : decide ((strOfNums y167).size + t170.size ≤ 9223372036854775807) = true := decide_eq_true c5
   try have c5b2 : (9223372036854775807 < (strOfNums y167).size + t170.size) = False := eq_false (Nat.not_lt.2 c5)
   replace H := Option.bind_eq_some_iff.mp H
   obtain ⟨t171, A60, H⟩ := H
   replace H : (if ((strOfNums y167) ++ t170).size + t171.size ≤ 9223372036854775807 then (if (((strOfNums y167) ++ t170) ++ t171).size + a0_3.size ≤ 9223372036854775807 then ((calamusref01_Num.f (((((strOfNums y167) ++ t170) ++ t171) ++ a0_3).size : Int)).bind fun t172 => (if t172.size + ((((strOfNums y167) ++ t170) ++ t171) ++ a0_3).size ≤ 9223372036854775807 then ((calamusref02_Seal.f k (t172 ++ ((((strOfNums y167) ++ t170) ++ t171) ++ a0_3))).bind fun t173 => (some t173)) else (none))) else (none)) else (none)) = some r := H
   have A6 := Aside0.mk A60
   clear A60
   by_cases c7 : ((strOfNums y167) ++ t170).size + t171.size ≤ 9223372036854775807
   ·rw [if_pos c7] at H
    have c7b0 := eq_true c7
    try (have c7b0x := c7b0; simp only [ByteArray.size_extract, Nat.min_self] at c7b0x)
    have c7b1 : decide (((strOfNums y167) ++ t170).size + t171.size ≤ 9223372036854775807) = true := decide_eq_true c7
    try (have c7b1x := c7b1; simp [-decide_eq_true_eq, -decide_eq_false_iff_not, c5b0, c7b0] at c7b1x)
    try have c7b2 : (9223372036854775807 < ((strOfNums y167) ++ t170).size + t171.size) = False := eq_false (Nat.not_lt.2 c7)
    try (have c7b2x := c7b2; simp only [ByteArray.size_append] at c7b2x)
    by_cases c8 : (((strOfNums y167) ++ t170) ++ t171).size + a0_3.size ≤ 9223372036854775807
    ·rw [if_pos c8] at H
     have c8b0 := eq_true c8
     try (have c8b0x := c8b0; simp only [ByteArray.size_extract, Nat.min_self] at c8b0x)
     have c8b1 : decide ((((strOfNums y167) ++ t170) ++ t171).size + a0_3.size ≤ 9223372036854775807) = true := decide_eq_true c8
     try (have c8b1x := c8b1; simp [-decide_eq_true_eq, -decide_eq_false_iff_not, c5b0, c7b0, c8b0] at c8b1x)
     try have c8b2 : (9223372036854775807 < (((strOfNums y167) ++ t170) ++ t171).size + a0_3.size) = False := eq_false (Nat.not_lt.2 c8)
     try (have c8b2x := c8b2; simp only [ByteArray.size_append] at c8b2x)
     replace H := Option.bind_eq_some_iff.mp H
     obtain ⟨t172, A90, H⟩ := H
     replace H : (if t172.size + ((((strOfNums y167) ++ t170) ++ t171) ++ a0_3).size ≤ 9223372036854775807 then ((calamusref02_Seal.f k (t172 ++ ((((strOfNums y167) ++ t170) ++ t171) ++ a0_3))).bind fun t173 => (some t173)) else (none)) = some r := H
     have A9 := Aside0.mk A90
     clear A90
     by_cases c10 : t172.size + ((((strOfNums y167) ++ t170) ++ t171) ++ a0_3).size ≤ 9223372036854775807
     ·rw [if_pos c10] at H
      have c10b0 := eq_true c10
      try (have c10b0x := c10b0; simp only [ByteArray.size_extract, Nat.min_self] at c10b0x)
      have c10b1 : decide (t172.size + ((((strOfNums y167) ++ t170) ++ t171) ++ a0_3).size ≤ 9223372036854775807) = true := decide_eq_true c10
      try (have c10b1x := c10b1; simp [-decide_eq_true_eq, -decide_eq_false_iff_not, c5b0, c7b0, c8b0, c10b0] at c10b1x)
      try have c10b2 : (9223372036854775807 < t172.size + ((((strOfNums y167) ++ t170) ++ t171) ++ a0_3).size) = False := eq_false (Nat.not_lt.2 c10)
      try (have c10b2x := c10b2; simp only [ByteArray.size_append] at c10b2x)
      replace H := Option.bind_eq_some_iff.mp H
      obtain ⟨t173, A110, H⟩ := H
      replace H : (some t173) = some r := H
      have A11 := Aside0.mk A110
      clear A110
      obtain rfl := Option.some.inj H
      go_enter Try.func23, Try.ntmps23
      try go_wp2_with (first | ((with_reducible refine gate_dst (N := 1) rfl ?_); refine be_ (N := 1) (cs := #[.int .i64 a0_0, .int .i64 a0_1, .int .i64 a0_2, .string a0_3]) (t := 26) (h := ?_); intro gb165 hg w12 hbox hb; have BK165 := Aside0.mk (hbox); have GW165 := gw_ HB hg; have GE165 := gw_ HB hg; replace HB := bs_ HB hb; clear hb hbox hg; obtain ⟨hcz13_0, hcz13_1, hcz13_2, hcz13_3, hfz13_0, hfz13_1, hfz13_2, hfz13_3⟩ := bc4_ BK165) | ((with_reducible refine gate_callee (f := 21) rfl ?_); refine ge_ (some 5) rfl rfl Try.func21 (by kernel_rfl) rfl #[.agg #[.int .i64 a0_0, .int .i64 a0_1, .int .i64 a0_2, .string a0_3]] rfl (h := ?_); (with_reducible refine (calamusref33_Right.calls a0_0 a0_1 a0_2 a0_3 true _ A2.out).mono ?_); rintro e w14 ⟨rfl, hb⟩; refine ⟨_, rfl, ?_⟩; replace BK165 := bb_ BK165 hb; replace HB := bs_ HB hb; (try clear hb); (try clear hb2); (try clear hk); (try clear hi)))
      have n0_ := Aside0.mk (blk_drew BK165.out)
      have n1_ := Aside0.mk (below_drew1 HB.out)
      clear BK165
      clear HB
      have BK165 := n0_
      have HB := n1_
      clear n0_ n1_
      refine start_ (n := 17) (S := fun w' => w'.cell? ⟨gb165, 0, none⟩ = some (.int .i64 a0_0) ∧ w'.cell? ⟨gb165, 1, none⟩ = some (.int .i64 a0_1) ∧ w'.cell? ⟨gb165, 2, none⟩ = some (.int .i64 a0_2) ∧ w'.cell? ⟨gb165, 3, none⟩ = some (.string a0_3)) (ds := []) #[false, false, false, false, false, false, false, false, false, false, false, false, false, false, false, false, false] (by kernel_rfl) rfl rfl ⟨(blk_cell BK165.out 0).trans rfl, (blk_cell BK165.out 1).trans rfl, (blk_cell BK165.out 2).trans rfl, (blk_cell BK165.out 3).trans rfl⟩ (fun hHeld => ?_); refine with_tabW calamusref33_Bytes.tab3 calamusref33_Bytes.bits3 (fun HT_ HW_ => ?_)
      generalize w14.drew = w15 at BK165 HB hHeld ⊢
      refine pp_ (i := 0) (N := some 7) #[true, false, false, false, false, false, false, false, false, false, false, false, false, false, false, false, false] rfl rfl (any_of HT_.out (by kernel_rfl)) (h := ?_)
      refine pp_ (i := 5) (N := some 12) #[true, false, false, false, false, true, false, false, false, false, false, false, false, false, false, false, false] rfl rfl (any_of HT_.out (by kernel_rfl)) (h := ?_)
      refine pp_ (i := 9) (N := some 16) #[true, false, false, false, false, true, false, false, false, true, false, false, false, false, false, false, false] rfl rfl (any_of HT_.out (by kernel_rfl)) (h := ?_)
      refine pp_ (i := 13) (N := some 20) #[true, false, false, false, false, true, false, false, false, true, false, false, false, true, false, false, false] rfl rfl (any_of HT_.out (by kernel_rfl)) (h := ?_)
      refine take_ (i := 1) (N := some 8) (v := ?_) (a' := ?_) #[true, true, false, false, false, true, false, false, false, true, false, false, false, true, false, false, false] rfl rfl (take_ofW HT_.out HW_.out (by kernel_rfl)) (fun _ _ _ h => h) (Or.inl ⟨by rfl, ?_⟩) hHeld ?_ ?_
      rotate_left
      ·rintro w' ⟨s0, s1, s2, s3⟩
       go_simp
       with_reducible rfl
      rotate_left
      ·simp only [Act.put, List.setIfInBounds_toArray, List.set_cons_zero, List.set_cons_succ, i64_w, i32_w]
       rfl
      refine pp_ (i := 2) (N := some 9) #[true, true, true, false, false, true, false, false, false, true, false, false, false, true, false, false, false] rfl rfl (any_of HT_.out (by kernel_rfl)) (h := ?_)
      refine take_ (i := 6) (N := some 13) (v := ?_) (a' := ?_) #[true, true, true, false, false, true, true, false, false, true, false, false, false, true, false, false, false] rfl rfl (take_ofW HT_.out HW_.out (by kernel_rfl)) (fun _ _ _ h => h) (Or.inl ⟨by rfl, ?_⟩) hHeld ?_ ?_
      rotate_left
      ·rintro w' ⟨s0, s1, s2, s3⟩
       go_simp
       with_reducible rfl
      rotate_left
      ·simp only [Act.put, List.setIfInBounds_toArray, List.set_cons_zero, List.set_cons_succ, i64_w, i32_w]
       rfl
      refine take_ (i := 10) (N := some 17) (v := ?_) (a' := ?_) #[true, true, true, false, false, true, true, false, false, true, true, false, false, true, false, false, false] rfl rfl (take_ofW HT_.out HW_.out (by kernel_rfl)) (fun _ _ _ h => h) (Or.inl ⟨by rfl, ?_⟩) hHeld ?_ ?_
      rotate_left
      ·rintro w' ⟨s0, s1, s2, s3⟩
       go_simp
       with_reducible rfl
      rotate_left
      ·simp only [Act.put, List.setIfInBounds_toArray, List.set_cons_zero, List.set_cons_succ, i64_w, i32_w]
       rfl
      refine take_ (i := 14) (N := some 21) (v := ?_) (a' := ?_) #[true, true, true, false, false, true, true, false, false, true, true, false, false, true, true, false, false] rfl rfl (take_ofW HT_.out HW_.out (by kernel_rfl)) (fun _ _ _ h => h) (Or.inl ⟨by rfl, ?_⟩) hHeld ?_ ?_
      rotate_left
      ·rintro w' ⟨s0, s1, s2, s3⟩
       go_simp
       with_reducible rfl
      rotate_left
      ·simp only [Act.put, List.setIfInBounds_toArray, List.set_cons_zero, List.set_cons_succ, i64_w, i32_w]
       rfl
      refine join_ (σ := Value) 3 #[true, true, true, true, true, true, true, true, true, true, true, true, false, true, true, false, false] (fun s_ => [(10, s_), (11, .string (strOfNums y167)), (14, .string t170), (18, .string t171), (15, .string ((strOfNums y167) ++ t170))]) (fun s_ w' => (w'.cell? ⟨gb165, 0, none⟩ = some (.int .i64 a0_0) ∧ w'.cell? ⟨gb165, 1, none⟩ = some (.int .i64 a0_1) ∧ w'.cell? ⟨gb165, 2, none⟩ = some (.int .i64 a0_2) ∧ w'.cell? ⟨gb165, 3, none⟩ = some (.string a0_3)) ∧ (Kd.R (Kd.int .u8) 5 w' w.heap.size (fun _ => True) s_ y167) ∧ (w'.heap[gb165]? = some (.cells #[.int .i64 a0_0, .int .i64 a0_1, .int .i64 a0_2, .string a0_3] 26 (0, 0))) ∧ (Below w.heap.size w w')) ?_ ?_
      rotate_left
      ·intro hJ3_4_7_11
       refine join_ (σ := Value) 4 #[true, true, true, true, true, true, true, true, true, true, true, false, false, true, true, false, false] (fun s_ => [(10, s_), (11, .string (strOfNums y167)), (14, .string t170), (15, .string ((strOfNums y167) ++ t170))]) (fun s_ w' => (w'.cell? ⟨gb165, 0, none⟩ = some (.int .i64 a0_0) ∧ w'.cell? ⟨gb165, 1, none⟩ = some (.int .i64 a0_1) ∧ w'.cell? ⟨gb165, 2, none⟩ = some (.int .i64 a0_2) ∧ w'.cell? ⟨gb165, 3, none⟩ = some (.string a0_3)) ∧ (Kd.R (Kd.int .u8) 5 w' w.heap.size (fun _ => True) s_ y167) ∧ (w'.heap[gb165]? = some (.cells #[.int .i64 a0_0, .int .i64 a0_1, .int .i64 a0_2, .string a0_3] 26 (0, 0))) ∧ (Below w.heap.size w w')) ?_ ?_
       rotate_left
       ·intro hJ3_4_7
        refine join_ (σ := Value) 5 #[true, true, true, true, false, true, true, true, false, true, true, true, false, true, true, false, false] (fun s_ => [(10, s_), (14, .string t170), (18, .string t171)]) (fun s_ w' => (w'.cell? ⟨gb165, 0, none⟩ = some (.int .i64 a0_0) ∧ w'.cell? ⟨gb165, 1, none⟩ = some (.int .i64 a0_1) ∧ w'.cell? ⟨gb165, 2, none⟩ = some (.int .i64 a0_2) ∧ w'.cell? ⟨gb165, 3, none⟩ = some (.string a0_3)) ∧ (Kd.R (Kd.int .u8) 5 w' w.heap.size (fun _ => True) s_ y167) ∧ (w'.heap[gb165]? = some (.cells #[.int .i64 a0_0, .int .i64 a0_1, .int .i64 a0_2, .string a0_3] 26 (0, 0))) ∧ (Below w.heap.size w w')) ?_ ?_
        rotate_left
        ·intro hJ3_7_11
         refine join_ (σ := Value) 6 #[true, true, true, true, true, true, true, false, false, true, true, false, false, true, true, false, false] (fun s_ => [(10, s_), (11, .string (strOfNums y167))]) (fun s_ w' => (w'.cell? ⟨gb165, 0, none⟩ = some (.int .i64 a0_0) ∧ w'.cell? ⟨gb165, 1, none⟩ = some (.int .i64 a0_1) ∧ w'.cell? ⟨gb165, 2, none⟩ = some (.int .i64 a0_2) ∧ w'.cell? ⟨gb165, 3, none⟩ = some (.string a0_3)) ∧ (Kd.R (Kd.int .u8) 5 w' w.heap.size (fun _ => True) s_ y167) ∧ (w'.heap[gb165]? = some (.cells #[.int .i64 a0_0, .int .i64 a0_1, .int .i64 a0_2, .string a0_3] 26 (0, 0))) ∧ (Below w.heap.size w w')) ?_ ?_
         rotate_left
         ·intro hJ3_4
          refine join_ (σ := Value) 6 #[true, true, true, true, false, true, true, true, false, true, true, false, false, true, true, false, false] (fun s_ => [(10, s_), (14, .string t170)]) (fun s_ w' => (w'.cell? ⟨gb165, 0, none⟩ = some (.int .i64 a0_0) ∧ w'.cell? ⟨gb165, 1, none⟩ = some (.int .i64 a0_1) ∧ w'.cell? ⟨gb165, 2, none⟩ = some (.int .i64 a0_2) ∧ w'.cell? ⟨gb165, 3, none⟩ = some (.string a0_3)) ∧ (Kd.R (Kd.int .u8) 5 w' w.heap.size (fun _ => True) s_ y167) ∧ (w'.heap[gb165]? = some (.cells #[.int .i64 a0_0, .int .i64 a0_1, .int .i64 a0_2, .string a0_3] 26 (0, 0))) ∧ (Below w.heap.size w w')) ?_ ?_
          rotate_left
          ·intro hJ3_7
           refine join_ (σ := Unit) 6 #[true, true, true, false, false, true, true, true, false, true, true, true, false, true, true, false, false] (fun s_ => [(14, .string t170), (18, .string t171)]) (fun s_ w' => (w'.cell? ⟨gb165, 0, none⟩ = some (.int .i64 a0_0) ∧ w'.cell? ⟨gb165, 1, none⟩ = some (.int .i64 a0_1) ∧ w'.cell? ⟨gb165, 2, none⟩ = some (.int .i64 a0_2) ∧ w'.cell? ⟨gb165, 3, none⟩ = some (.string a0_3)) ∧ (w'.heap[gb165]? = some (.cells #[.int .i64 a0_0, .int .i64 a0_1, .int .i64 a0_2, .string a0_3] 26 (0, 0))) ∧ (Below w.heap.size w w')) ?_ ?_
           rotate_left
           ·intro hJ7_11
            refine join_ (σ := Value) 7 #[true, true, true, true, false, true, true, false, false, true, true, false, false, true, true, false, false] (fun s_ => [(10, s_)]) (fun s_ w' => (w'.cell? ⟨gb165, 0, none⟩ = some (.int .i64 a0_0) ∧ w'.cell? ⟨gb165, 1, none⟩ = some (.int .i64 a0_1) ∧ w'.cell? ⟨gb165, 2, none⟩ = some (.int .i64 a0_2) ∧ w'.cell? ⟨gb165, 3, none⟩ = some (.string a0_3)) ∧ (Kd.R (Kd.int .u8) 5 w' w.heap.size (fun _ => True) s_ y167) ∧ (w'.heap[gb165]? = some (.cells #[.int .i64 a0_0, .int .i64 a0_1, .int .i64 a0_2, .string a0_3] 26 (0, 0))) ∧ (Below w.heap.size w w')) ?_ ?_
            rotate_left
            ·intro hJ3
             refine join_ (σ := Unit) 7 #[true, true, true, false, false, true, true, true, false, true, true, false, false, true, true, false, false] (fun s_ => [(14, .string t170)]) (fun s_ w' => (w'.cell? ⟨gb165, 0, none⟩ = some (.int .i64 a0_0) ∧ w'.cell? ⟨gb165, 1, none⟩ = some (.int .i64 a0_1) ∧ w'.cell? ⟨gb165, 2, none⟩ = some (.int .i64 a0_2) ∧ w'.cell? ⟨gb165, 3, none⟩ = some (.string a0_3)) ∧ (w'.heap[gb165]? = some (.cells #[.int .i64 a0_0, .int .i64 a0_1, .int .i64 a0_2, .string a0_3] 26 (0, 0))) ∧ (Below w.heap.size w w')) ?_ ?_
             rotate_left
             ·intro hJ7
              refine two_ (i := 3) (j := 7) (Ni := some 10) (Nj := some 14) #[true, true, true, true, false, true, true, false, false, true, true, false, false, true, true, false, false] #[true, true, true, false, false, true, true, true, false, true, true, false, false, true, true, false, false] rfl rfl rfl rfl (two_of HT_.out (by kernel_rfl)) (by decide) (by decide) (fun K hK => ?_) (fun K hK => ?_)
              ·skip
               refine Kd.R_lit_step (Kd.int .u8) _ 5 ?hg (N := 10) ?hd (xs := ([(a0_0) % 256] : List Int)) (inner := [.int .u8 ((a0_0) % 256)]) (ok := fun _ => True) (okp := fun _ => True) ?hr ?hp (fun _ hk => hk) trivial (Below.refl _ _) (Nat.le_refl _) (by simp) ?_; (case hd => rfl); (case hg => rfl); (case hr => first | (go_simp; done) | (go_simp; rfl)); (case hp => exact (Reps.one (show Kd.M (Kd.int .u8) _ _ _ ((a0_0) % 256) [.int .u8 ((a0_0) % 256)] from rfl) (Reps.none _ _)))
               intro v168 w16 ho17 hb hg_ hnew_
               clear hg_ hnew_
               (first | rw [← Ny167.out] at ho17 | (simp only [Int.reduceToNat] at ho17; rw [← Ny167.out] at ho17))
               have n0_ := Aside0.mk (Kd.R_lower ho17 (below_size (hb_ HB)))
               have n1_ := bb_ BK165 hb
               have n2_ := bs_ HB hb
               clear BK165
               clear HB
               have HO169 := n0_
               have BK165 := n1_
               have HB := n2_
               clear n0_ n1_ n2_
               clear hb ho17
               refine hK.out _ _ ⟨(blk_cell BK165.out 0).trans rfl, (blk_cell BK165.out 1).trans rfl, (blk_cell BK165.out 2).trans rfl, (blk_cell BK165.out 3).trans rfl⟩ (fun hHeld => ?_)
               clear hK K
               refine norm_ (a' := ?_) ?_ ?_
               rotate_left
               ·show Act.put _ (some 10) _ = _
                simp only [Act.put, List.setIfInBounds_toArray, List.set_cons_zero, List.set_cons_succ, i64_w, i32_w]
                rfl
               exact norm_ (by first | (simp only [putAll, Act.put, List.setIfInBounds_toArray, List.set_cons_zero, List.set_cons_succ]; done) | (simp only [putAll, Act.put, List.setIfInBounds_toArray, List.set_cons_zero, List.set_cons_succ]; rfl)) (hJ3 (v168) _ ⟨hHeld, (rw_ HO169.out), (bw_ BK165.out), (hb_ HB)⟩)
              ·skip
               refine goes_ Try.func53 (by kernel_rfl) rfl #[.int .i64 a0_1] (by rfl) rfl rfl (by (try simp only [List.map_toArray, List.map_cons, List.map_nil]); first | done | rfl | (simp only [List.length_drop, List.length_take]; rfl)) ?_
               with_reducible refine (calamusref01_Num.calls a0_1 t170 _ A4.out).mono ?_
               rintro e w16 ⟨rfl, hb⟩
               refine ⟨_, rfl, ?_⟩
               have n0_ := bb_ BK165 hb
               have n1_ := bs_ HB hb
               clear BK165
               clear HB
               have BK165 := n0_
               have HB := n1_
               clear n0_ n1_
               (try clear hb)
               (try clear hb2)
               (try clear hk)
               (try clear hi)
               refine hK.out _ _ ⟨(blk_cell BK165.out 0).trans rfl, (blk_cell BK165.out 1).trans rfl, (blk_cell BK165.out 2).trans rfl, (blk_cell BK165.out 3).trans rfl⟩ (fun hHeld => ?_)
               clear hK K
               refine norm_ (a' := ?_) ?_ ?_
               rotate_left
               ·show Act.put _ (some 14) _ = _
                simp only [Act.put, List.setIfInBounds_toArray, List.set_cons_zero, List.set_cons_succ, i64_w, i32_w]
                rfl
               exact norm_ (by first | (simp only [putAll, Act.put, List.setIfInBounds_toArray, List.set_cons_zero, List.set_cons_succ]; done) | (simp only [putAll, Act.put, List.setIfInBounds_toArray, List.set_cons_zero, List.set_cons_succ]; rfl)) (hJ7 () _ ⟨hHeld, (bw_ BK165.out), (hb_ HB)⟩)
             ·skip
              rintro _ w17 ⟨hS_, h0_, h1_⟩
              have n0_ : Aside0 (w17.heap[gb165]? = some (.cells #[.int .i64 a0_0, .int .i64 a0_1, .int .i64 a0_2, .string a0_3] 26 (0, 0))) := ⟨h0_⟩
              have n1_ : Aside0 (Below w.heap.size w w17) := ⟨h1_⟩
              clear BK165
              clear HB
              clear h0_ h1_
              have BK165 := n0_
              have HB := n1_
              clear n0_ n1_
              have hHeld : w17.cell? ⟨gb165, 0, none⟩ = some (.int .i64 a0_0) ∧ w17.cell? ⟨gb165, 1, none⟩ = some (.int .i64 a0_1) ∧ w17.cell? ⟨gb165, 2, none⟩ = some (.int .i64 a0_2) ∧ w17.cell? ⟨gb165, 3, none⟩ = some (.string a0_3) := hS_
              refine norm_ (a' := ?_) ?_ ?_
              rotate_left
              ·simp only [putAll, Act.put, List.setIfInBounds_toArray, List.set_cons_zero, List.set_cons_succ]
               rfl
              refine two_ (i := 3) (j := 11) (Ni := some 10) (Nj := some 18) #[true, true, true, true, false, true, true, true, false, true, true, false, false, true, true, false, false] #[true, true, true, false, false, true, true, true, false, true, true, true, false, true, true, false, false] rfl rfl rfl rfl (two_of HT_.out (by kernel_rfl)) (by decide) (by decide) (fun K hK => ?_) (fun K hK => ?_)
              ·skip
               refine Kd.R_lit_step (Kd.int .u8) _ 5 ?hg (N := 10) ?hd (xs := ([(a0_0) % 256] : List Int)) (inner := [.int .u8 ((a0_0) % 256)]) (ok := fun _ => True) (okp := fun _ => True) ?hr ?hp (fun _ hk => hk) trivial (Below.refl _ _) (Nat.le_refl _) (by simp) ?_; (case hd => rfl); (case hg => rfl); (case hr => first | (go_simp; done) | (go_simp; rfl)); (case hp => exact (Reps.one (show Kd.M (Kd.int .u8) _ _ _ ((a0_0) % 256) [.int .u8 ((a0_0) % 256)] from rfl) (Reps.none _ _)))
               intro v168 w18 ho19 hb hg_ hnew_
               clear hg_ hnew_
               (first | rw [← Ny167.out] at ho19 | (simp only [Int.reduceToNat] at ho19; rw [← Ny167.out] at ho19))
               have n0_ := Aside0.mk (Kd.R_lower ho19 (below_size (hb_ HB)))
               have n1_ := bb_ BK165 hb
               have n2_ := bs_ HB hb
               clear BK165
               clear HB
               have HO169 := n0_
               have BK165 := n1_
               have HB := n2_
               clear n0_ n1_ n2_
               clear hb ho19
               refine hK.out _ _ ⟨(blk_cell BK165.out 0).trans rfl, (blk_cell BK165.out 1).trans rfl, (blk_cell BK165.out 2).trans rfl, (blk_cell BK165.out 3).trans rfl⟩ (fun hHeld => ?_)
               clear hK K
               refine norm_ (a' := ?_) ?_ ?_
               rotate_left
               ·show Act.put _ (some 10) _ = _
                simp only [Act.put, List.setIfInBounds_toArray, List.set_cons_zero, List.set_cons_succ, i64_w, i32_w]
                rfl
               exact norm_ (by first | (simp only [putAll, Act.put, List.setIfInBounds_toArray, List.set_cons_zero, List.set_cons_succ]; done) | (simp only [putAll, Act.put, List.setIfInBounds_toArray, List.set_cons_zero, List.set_cons_succ]; rfl)) (hJ3_7 (v168) _ ⟨hHeld, (rw_ HO169.out), (bw_ BK165.out), (hb_ HB)⟩)
              ·skip
               refine goes_ Try.func53 (by kernel_rfl) rfl #[.int .i64 a0_2] (by rfl) rfl rfl (by (try simp only [List.map_toArray, List.map_cons, List.map_nil]); first | done | rfl | (simp only [List.length_drop, List.length_take]; rfl)) ?_
               with_reducible refine (calamusref01_Num.calls a0_2 t171 _ A6.out).mono ?_
               rintro e w18 ⟨rfl, hb⟩
               refine ⟨_, rfl, ?_⟩
               have n0_ := bb_ BK165 hb
               have n1_ := bs_ HB hb
               clear BK165
               clear HB
               have BK165 := n0_
               have HB := n1_
               clear n0_ n1_
               (try clear hb)
               (try clear hb2)
               (try clear hk)
               (try clear hi)
               refine hK.out _ _ ⟨(blk_cell BK165.out 0).trans rfl, (blk_cell BK165.out 1).trans rfl, (blk_cell BK165.out 2).trans rfl, (blk_cell BK165.out 3).trans rfl⟩ (fun hHeld => ?_)
               clear hK K
               refine norm_ (a' := ?_) ?_ ?_
               rotate_left
               ·show Act.put _ (some 18) _ = _
                simp only [Act.put, List.setIfInBounds_toArray, List.set_cons_zero, List.set_cons_succ, i64_w, i32_w]
                rfl
               exact norm_ (by first | (simp only [putAll, Act.put, List.setIfInBounds_toArray, List.set_cons_zero, List.set_cons_succ]; done) | (simp only [putAll, Act.put, List.setIfInBounds_toArray, List.set_cons_zero, List.set_cons_succ]; rfl)) (hJ7_11 () _ ⟨hHeld, (bw_ BK165.out), (hb_ HB)⟩)
            ·skip
             rintro v168 w18 ⟨hS_, h0_, h1_, h2_⟩
             have n0_ : Aside0 (Kd.R (Kd.int .u8) 5 w18 w.heap.size (fun _ => True) v168 y167) := ⟨h0_⟩
             have n1_ : Aside0 (w18.heap[gb165]? = some (.cells #[.int .i64 a0_0, .int .i64 a0_1, .int .i64 a0_2, .string a0_3] 26 (0, 0))) := ⟨h1_⟩
             have n2_ : Aside0 (Below w.heap.size w w18) := ⟨h2_⟩
             clear BK165
             clear HB
             clear h0_ h1_ h2_
             have HO169 := n0_
             have BK165 := n1_
             have HB := n2_
             clear n0_ n1_ n2_
             have hHeld : w18.cell? ⟨gb165, 0, none⟩ = some (.int .i64 a0_0) ∧ w18.cell? ⟨gb165, 1, none⟩ = some (.int .i64 a0_1) ∧ w18.cell? ⟨gb165, 2, none⟩ = some (.int .i64 a0_2) ∧ w18.cell? ⟨gb165, 3, none⟩ = some (.string a0_3) := hS_
             refine norm_ (a' := ?_) ?_ ?_
             rotate_left
             ·simp only [putAll, Act.put, List.setIfInBounds_toArray, List.set_cons_zero, List.set_cons_succ]
              rfl
             refine two_ (i := 4) (j := 7) (Ni := some 11) (Nj := some 14) #[true, true, true, true, true, true, true, false, false, true, true, false, false, true, true, false, false] #[true, true, true, true, false, true, true, true, false, true, true, false, false, true, true, false, false] rfl rfl rfl rfl (two_of HT_.out (by kernel_rfl)) (by decide) (by decide) (fun K hK => ?_) (fun K hK => ?_)
             ·skip
              have hcv19 := own_string (P := Try.prog) Try.underlying84 Try.underlying5 Try.underlying9 (Kd.own_of_R HO169.out)
              refine value_ (w1 := ?_) (v := ?_) (by rfl) rfl ?_ ?_
              rotate_left 2
              ·go_simp
               constructor
               ·rfl
               ·rfl
              clear hcv19
              refine hK.out _ _ ⟨(blk_cell BK165.out 0).trans rfl, (blk_cell BK165.out 1).trans rfl, (blk_cell BK165.out 2).trans rfl, (blk_cell BK165.out 3).trans rfl⟩ (fun hHeld => ?_)
              clear hK K
              refine norm_ (a' := ?_) ?_ ?_
              rotate_left
              ·show Act.put _ (some 11) _ = _
               simp only [Act.put, List.setIfInBounds_toArray, List.set_cons_zero, List.set_cons_succ, i64_w, i32_w]
               rfl
              exact norm_ (by first | (simp only [putAll, Act.put, List.setIfInBounds_toArray, List.set_cons_zero, List.set_cons_succ]; done) | (simp only [putAll, Act.put, List.setIfInBounds_toArray, List.set_cons_zero, List.set_cons_succ]; rfl)) (hJ3_4 (v168) _ ⟨hHeld, (rw_ HO169.out), (bw_ BK165.out), (hb_ HB)⟩)
             ·skip
              refine goes_ Try.func53 (by kernel_rfl) rfl #[.int .i64 a0_1] (by rfl) rfl rfl (by (try simp only [List.map_toArray, List.map_cons, List.map_nil]); first | done | rfl | (simp only [List.length_drop, List.length_take]; rfl)) ?_
              with_reducible refine (calamusref01_Num.calls a0_1 t170 _ A4.out).mono ?_
              rintro e w19 ⟨rfl, hb⟩
              refine ⟨_, rfl, ?_⟩
              have n0_ := Aside0.mk (Kd.R_below (rw_ HO169.out) hb)
              have n1_ := bb_ BK165 hb
              have n2_ := bs_ HB hb
              clear HO169
              clear BK165
              clear HB
              have HO169 := n0_
              have BK165 := n1_
              have HB := n2_
              clear n0_ n1_ n2_
              (try clear hb)
              (try clear hb2)
              (try clear hk)
              (try clear hi)
              refine hK.out _ _ ⟨(blk_cell BK165.out 0).trans rfl, (blk_cell BK165.out 1).trans rfl, (blk_cell BK165.out 2).trans rfl, (blk_cell BK165.out 3).trans rfl⟩ (fun hHeld => ?_)
              clear hK K
              refine norm_ (a' := ?_) ?_ ?_
              rotate_left
              ·show Act.put _ (some 14) _ = _
               simp only [Act.put, List.setIfInBounds_toArray, List.set_cons_zero, List.set_cons_succ, i64_w, i32_w]
               rfl
              exact norm_ (by first | (simp only [putAll, Act.put, List.setIfInBounds_toArray, List.set_cons_zero, List.set_cons_succ]; done) | (simp only [putAll, Act.put, List.setIfInBounds_toArray, List.set_cons_zero, List.set_cons_succ]; rfl)) (hJ3_7 (v168) _ ⟨hHeld, (rw_ HO169.out), (bw_ BK165.out), (hb_ HB)⟩)
           ·skip
            rintro _ w18 ⟨hS_, h0_, h1_⟩
            have n0_ : Aside0 (w18.heap[gb165]? = some (.cells #[.int .i64 a0_0, .int .i64 a0_1, .int .i64 a0_2, .string a0_3] 26 (0, 0))) := ⟨h0_⟩
            have n1_ : Aside0 (Below w.heap.size w w18) := ⟨h1_⟩
            clear BK165
            clear HB
            clear h0_ h1_
            have BK165 := n0_
            have HB := n1_
            clear n0_ n1_
            have hHeld : w18.cell? ⟨gb165, 0, none⟩ = some (.int .i64 a0_0) ∧ w18.cell? ⟨gb165, 1, none⟩ = some (.int .i64 a0_1) ∧ w18.cell? ⟨gb165, 2, none⟩ = some (.int .i64 a0_2) ∧ w18.cell? ⟨gb165, 3, none⟩ = some (.string a0_3) := hS_
            refine norm_ (a' := ?_) ?_ ?_
            rotate_left
            ·simp only [putAll, Act.put, List.setIfInBounds_toArray, List.set_cons_zero, List.set_cons_succ]
             rfl
            refine one_ (i := 3) (N := some 10) #[true, true, true, true, false, true, true, true, false, true, true, true, false, true, true, false, false] rfl rfl (one_of HT_.out (by kernel_rfl)) (by decide) (fun K hK => ?_)
            refine Kd.R_lit_step (Kd.int .u8) _ 5 ?hg (N := 10) ?hd (xs := ([(a0_0) % 256] : List Int)) (inner := [.int .u8 ((a0_0) % 256)]) (ok := fun _ => True) (okp := fun _ => True) ?hr ?hp (fun _ hk => hk) trivial (Below.refl _ _) (Nat.le_refl _) (by simp) ?_; (case hd => rfl); (case hg => rfl); (case hr => first | (go_simp; done) | (go_simp; rfl)); (case hp => exact (Reps.one (show Kd.M (Kd.int .u8) _ _ _ ((a0_0) % 256) [.int .u8 ((a0_0) % 256)] from rfl) (Reps.none _ _)))
            intro v168 w19 ho20 hb hg_ hnew_
            clear hg_ hnew_
            (first | rw [← Ny167.out] at ho20 | (simp only [Int.reduceToNat] at ho20; rw [← Ny167.out] at ho20))
            have n0_ := Aside0.mk (Kd.R_lower ho20 (below_size (hb_ HB)))
            have n1_ := bb_ BK165 hb
            have n2_ := bs_ HB hb
            clear BK165
            clear HB
            have HO169 := n0_
            have BK165 := n1_
            have HB := n2_
            clear n0_ n1_ n2_
            clear hb ho20
            refine hK.out _ _ ⟨(blk_cell BK165.out 0).trans rfl, (blk_cell BK165.out 1).trans rfl, (blk_cell BK165.out 2).trans rfl, (blk_cell BK165.out 3).trans rfl⟩ (fun hHeld => ?_)
            clear hK K
            refine norm_ (a' := ?_) ?_ ?_
            rotate_left
            ·show Act.put _ (some 10) _ = _
             simp only [Act.put, List.setIfInBounds_toArray, List.set_cons_zero, List.set_cons_succ, i64_w, i32_w]
             rfl
            exact norm_ (by first | (simp only [putAll, Act.put, List.setIfInBounds_toArray, List.set_cons_zero, List.set_cons_succ]; done) | (simp only [putAll, Act.put, List.setIfInBounds_toArray, List.set_cons_zero, List.set_cons_succ]; rfl)) (hJ3_7_11 (v168) _ ⟨hHeld, (rw_ HO169.out), (bw_ BK165.out), (hb_ HB)⟩)
          ·skip
           rintro v168 w19 ⟨hS_, h0_, h1_, h2_⟩
           have n0_ : Aside0 (Kd.R (Kd.int .u8) 5 w19 w.heap.size (fun _ => True) v168 y167) := ⟨h0_⟩
           have n1_ : Aside0 (w19.heap[gb165]? = some (.cells #[.int .i64 a0_0, .int .i64 a0_1, .int .i64 a0_2, .string a0_3] 26 (0, 0))) := ⟨h1_⟩
           have n2_ : Aside0 (Below w.heap.size w w19) := ⟨h2_⟩
           clear BK165
           clear HB
           clear h0_ h1_ h2_
           have HO169 := n0_
           have BK165 := n1_
           have HB := n2_
           clear n0_ n1_ n2_
           have hHeld : w19.cell? ⟨gb165, 0, none⟩ = some (.int .i64 a0_0) ∧ w19.cell? ⟨gb165, 1, none⟩ = some (.int .i64 a0_1) ∧ w19.cell? ⟨gb165, 2, none⟩ = some (.int .i64 a0_2) ∧ w19.cell? ⟨gb165, 3, none⟩ = some (.string a0_3) := hS_
           refine norm_ (a' := ?_) ?_ ?_
           rotate_left
           ·simp only [putAll, Act.put, List.setIfInBounds_toArray, List.set_cons_zero, List.set_cons_succ]
            rfl
           refine two_ (i := 4) (j := 11) (Ni := some 11) (Nj := some 18) #[true, true, true, true, true, true, true, true, false, true, true, false, false, true, true, false, false] #[true, true, true, true, false, true, true, true, false, true, true, true, false, true, true, false, false] rfl rfl rfl rfl (two_of HT_.out (by kernel_rfl)) (by decide) (by decide) (fun K hK => ?_) (fun K hK => ?_)
           ·skip
            have hcv20 := own_string (P := Try.prog) Try.underlying84 Try.underlying5 Try.underlying9 (Kd.own_of_R HO169.out)
            refine value_ (w1 := ?_) (v := ?_) (by rfl) rfl ?_ ?_
            rotate_left 2
            ·go_simp
             constructor
             ·rfl
             ·rfl
            clear hcv20
            refine hK.out _ _ ⟨(blk_cell BK165.out 0).trans rfl, (blk_cell BK165.out 1).trans rfl, (blk_cell BK165.out 2).trans rfl, (blk_cell BK165.out 3).trans rfl⟩ (fun hHeld => ?_)
            clear hK K
            refine norm_ (a' := ?_) ?_ ?_
            rotate_left
            ·show Act.put _ (some 11) _ = _
             simp only [Act.put, List.setIfInBounds_toArray, List.set_cons_zero, List.set_cons_succ, i64_w, i32_w]
             rfl
            refine pp_ (i := 8) (N := some 15) #[true, true, true, true, true, true, true, true, true, true, true, false, false, true, true, false, false] rfl rfl (any_of HT_.out (by kernel_rfl)) (h := ?_)
            exact norm_ (by first | (simp only [putAll, Act.put, List.setIfInBounds_toArray, List.set_cons_zero, List.set_cons_succ]; done) | (simp only [putAll, Act.put, List.setIfInBounds_toArray, List.set_cons_zero, List.set_cons_succ]; rfl)) (hJ3_4_7 (v168) _ ⟨hHeld, (rw_ HO169.out), (bw_ BK165.out), (hb_ HB)⟩)
           ·skip
            refine goes_ Try.func53 (by kernel_rfl) rfl #[.int .i64 a0_2] (by rfl) rfl rfl (by (try simp only [List.map_toArray, List.map_cons, List.map_nil]); first | done | rfl | (simp only [List.length_drop, List.length_take]; rfl)) ?_
            with_reducible refine (calamusref01_Num.calls a0_2 t171 _ A6.out).mono ?_
            rintro e w20 ⟨rfl, hb⟩
            refine ⟨_, rfl, ?_⟩
            have n0_ := Aside0.mk (Kd.R_below (rw_ HO169.out) hb)
            have n1_ := bb_ BK165 hb
            have n2_ := bs_ HB hb
            clear HO169
            clear BK165
            clear HB
            have HO169 := n0_
            have BK165 := n1_
            have HB := n2_
            clear n0_ n1_ n2_
            (try clear hb)
            (try clear hb2)
            (try clear hk)
            (try clear hi)
            refine hK.out _ _ ⟨(blk_cell BK165.out 0).trans rfl, (blk_cell BK165.out 1).trans rfl, (blk_cell BK165.out 2).trans rfl, (blk_cell BK165.out 3).trans rfl⟩ (fun hHeld => ?_)
            clear hK K
            refine norm_ (a' := ?_) ?_ ?_
            rotate_left
            ·show Act.put _ (some 18) _ = _
             simp only [Act.put, List.setIfInBounds_toArray, List.set_cons_zero, List.set_cons_succ, i64_w, i32_w]
             rfl
            exact norm_ (by first | (simp only [putAll, Act.put, List.setIfInBounds_toArray, List.set_cons_zero, List.set_cons_succ]; done) | (simp only [putAll, Act.put, List.setIfInBounds_toArray, List.set_cons_zero, List.set_cons_succ]; rfl)) (hJ3_7_11 (v168) _ ⟨hHeld, (rw_ HO169.out), (bw_ BK165.out), (hb_ HB)⟩)
         ·skip
          rintro v168 w19 ⟨hS_, h0_, h1_, h2_⟩
          have n0_ : Aside0 (Kd.R (Kd.int .u8) 5 w19 w.heap.size (fun _ => True) v168 y167) := ⟨h0_⟩
          have n1_ : Aside0 (w19.heap[gb165]? = some (.cells #[.int .i64 a0_0, .int .i64 a0_1, .int .i64 a0_2, .string a0_3] 26 (0, 0))) := ⟨h1_⟩
          have n2_ : Aside0 (Below w.heap.size w w19) := ⟨h2_⟩
          clear BK165
          clear HB
          clear h0_ h1_ h2_
          have HO169 := n0_
          have BK165 := n1_
          have HB := n2_
          clear n0_ n1_ n2_
          have hHeld : w19.cell? ⟨gb165, 0, none⟩ = some (.int .i64 a0_0) ∧ w19.cell? ⟨gb165, 1, none⟩ = some (.int .i64 a0_1) ∧ w19.cell? ⟨gb165, 2, none⟩ = some (.int .i64 a0_2) ∧ w19.cell? ⟨gb165, 3, none⟩ = some (.string a0_3) := hS_
          refine norm_ (a' := ?_) ?_ ?_
          rotate_left
          ·simp only [putAll, Act.put, List.setIfInBounds_toArray, List.set_cons_zero, List.set_cons_succ]
           rfl
          refine one_ (i := 7) (N := some 14) #[true, true, true, true, true, true, true, true, false, true, true, false, false, true, true, false, false] rfl rfl (one_of HT_.out (by kernel_rfl)) (by decide) (fun K hK => ?_)
          refine goes_ Try.func53 (by kernel_rfl) rfl #[.int .i64 a0_1] (by rfl) rfl rfl (by (try simp only [List.map_toArray, List.map_cons, List.map_nil]); first | done | rfl | (simp only [List.length_drop, List.length_take]; rfl)) ?_
          with_reducible refine (calamusref01_Num.calls a0_1 t170 _ A4.out).mono ?_
          rintro e w20 ⟨rfl, hb⟩
          refine ⟨_, rfl, ?_⟩
          have n0_ := Aside0.mk (Kd.R_below (rw_ HO169.out) hb)
          have n1_ := bb_ BK165 hb
          have n2_ := bs_ HB hb
          clear HO169
          clear BK165
          clear HB
          have HO169 := n0_
          have BK165 := n1_
          have HB := n2_
          clear n0_ n1_ n2_
          (try clear hb)
          (try clear hb2)
          (try clear hk)
          (try clear hi)
          refine hK.out _ _ ⟨(blk_cell BK165.out 0).trans rfl, (blk_cell BK165.out 1).trans rfl, (blk_cell BK165.out 2).trans rfl, (blk_cell BK165.out 3).trans rfl⟩ (fun hHeld => ?_)
          clear hK K
          refine norm_ (a' := ?_) ?_ ?_
          rotate_left
          ·show Act.put _ (some 14) _ = _
           simp only [Act.put, List.setIfInBounds_toArray, List.set_cons_zero, List.set_cons_succ, i64_w, i32_w]
           rfl
          refine pp_ (i := 8) (N := some 15) #[true, true, true, true, true, true, true, true, true, true, true, false, false, true, true, false, false] rfl rfl (any_of HT_.out (by kernel_rfl)) (h := ?_)
          exact norm_ (by first | (simp only [putAll, Act.put, List.setIfInBounds_toArray, List.set_cons_zero, List.set_cons_succ]; done) | (simp only [putAll, Act.put, List.setIfInBounds_toArray, List.set_cons_zero, List.set_cons_succ]; rfl)) (hJ3_4_7 (v168) _ ⟨hHeld, (rw_ HO169.out), (bw_ BK165.out), (hb_ HB)⟩)
        ·skip
         rintro v168 w20 ⟨hS_, h0_, h1_, h2_⟩
         have n0_ : Aside0 (Kd.R (Kd.int .u8) 5 w20 w.heap.size (fun _ => True) v168 y167) := ⟨h0_⟩
         have n1_ : Aside0 (w20.heap[gb165]? = some (.cells #[.int .i64 a0_0, .int .i64 a0_1, .int .i64 a0_2, .string a0_3] 26 (0, 0))) := ⟨h1_⟩
         have n2_ : Aside0 (Below w.heap.size w w20) := ⟨h2_⟩
         clear BK165
         clear HB
         clear h0_ h1_ h2_
         have HO169 := n0_
         have BK165 := n1_
         have HB := n2_
         clear n0_ n1_ n2_
         have hHeld : w20.cell? ⟨gb165, 0, none⟩ = some (.int .i64 a0_0) ∧ w20.cell? ⟨gb165, 1, none⟩ = some (.int .i64 a0_1) ∧ w20.cell? ⟨gb165, 2, none⟩ = some (.int .i64 a0_2) ∧ w20.cell? ⟨gb165, 3, none⟩ = some (.string a0_3) := hS_
         refine norm_ (a' := ?_) ?_ ?_
         rotate_left
         ·simp only [putAll, Act.put, List.setIfInBounds_toArray, List.set_cons_zero, List.set_cons_succ]
          rfl
         refine one_ (i := 4) (N := some 11) #[true, true, true, true, true, true, true, true, false, true, true, true, false, true, true, false, false] rfl rfl (one_of HT_.out (by kernel_rfl)) (by decide) (fun K hK => ?_)
         have hcv21 := own_string (P := Try.prog) Try.underlying84 Try.underlying5 Try.underlying9 (Kd.own_of_R HO169.out)
         refine value_ (w1 := ?_) (v := ?_) (by rfl) rfl ?_ ?_
         rotate_left 2
         ·go_simp
          constructor
          ·rfl
          ·rfl
         clear hcv21
         refine hK.out _ _ ⟨(blk_cell BK165.out 0).trans rfl, (blk_cell BK165.out 1).trans rfl, (blk_cell BK165.out 2).trans rfl, (blk_cell BK165.out 3).trans rfl⟩ (fun hHeld => ?_)
         clear hK K
         refine norm_ (a' := ?_) ?_ ?_
         rotate_left
         ·show Act.put _ (some 11) _ = _
          simp only [Act.put, List.setIfInBounds_toArray, List.set_cons_zero, List.set_cons_succ, i64_w, i32_w]
          rfl
         refine pp_ (i := 8) (N := some 15) #[true, true, true, true, true, true, true, true, true, true, true, true, false, true, true, false, false] rfl rfl (any_of HT_.out (by kernel_rfl)) (h := ?_)
         exact norm_ (by first | (simp only [putAll, Act.put, List.setIfInBounds_toArray, List.set_cons_zero, List.set_cons_succ]; done) | (simp only [putAll, Act.put, List.setIfInBounds_toArray, List.set_cons_zero, List.set_cons_succ]; rfl)) (hJ3_4_7_11 (v168) _ ⟨hHeld, (rw_ HO169.out), (bw_ BK165.out), (hb_ HB)⟩)
       ·skip
        rintro v168 w20 ⟨hS_, h0_, h1_, h2_⟩
        have n0_ : Aside0 (Kd.R (Kd.int .u8) 5 w20 w.heap.size (fun _ => True) v168 y167) := ⟨h0_⟩
        have n1_ : Aside0 (w20.heap[gb165]? = some (.cells #[.int .i64 a0_0, .int .i64 a0_1, .int .i64 a0_2, .string a0_3] 26 (0, 0))) := ⟨h1_⟩
        have n2_ : Aside0 (Below w.heap.size w w20) := ⟨h2_⟩
        clear BK165
        clear HB
        clear h0_ h1_ h2_
        have HO169 := n0_
        have BK165 := n1_
        have HB := n2_
        clear n0_ n1_ n2_
        have hHeld : w20.cell? ⟨gb165, 0, none⟩ = some (.int .i64 a0_0) ∧ w20.cell? ⟨gb165, 1, none⟩ = some (.int .i64 a0_1) ∧ w20.cell? ⟨gb165, 2, none⟩ = some (.int .i64 a0_2) ∧ w20.cell? ⟨gb165, 3, none⟩ = some (.string a0_3) := hS_
        refine norm_ (a' := ?_) ?_ ?_
        rotate_left
        ·simp only [putAll, Act.put, List.setIfInBounds_toArray, List.set_cons_zero, List.set_cons_succ]
         rfl
        refine one_ (i := 11) (N := some 18) #[true, true, true, true, true, true, true, true, true, true, true, true, false, true, true, false, false] rfl rfl (one_of HT_.out (by kernel_rfl)) (by decide) (fun K hK => ?_)
        refine goes_ Try.func53 (by kernel_rfl) rfl #[.int .i64 a0_2] (by rfl) rfl rfl (by (try simp only [List.map_toArray, List.map_cons, List.map_nil]); first | done | rfl | (simp only [List.length_drop, List.length_take]; rfl)) ?_
        with_reducible refine (calamusref01_Num.calls a0_2 t171 _ A6.out).mono ?_
        rintro e w21 ⟨rfl, hb⟩
        refine ⟨_, rfl, ?_⟩
        have n0_ := Aside0.mk (Kd.R_below (rw_ HO169.out) hb)
        have n1_ := bb_ BK165 hb
        have n2_ := bs_ HB hb
        clear HO169
        clear BK165
        clear HB
        have HO169 := n0_
        have BK165 := n1_
        have HB := n2_
        clear n0_ n1_ n2_
        (try clear hb)
        (try clear hb2)
        (try clear hk)
        (try clear hi)
        refine hK.out _ _ ⟨(blk_cell BK165.out 0).trans rfl, (blk_cell BK165.out 1).trans rfl, (blk_cell BK165.out 2).trans rfl, (blk_cell BK165.out 3).trans rfl⟩ (fun hHeld => ?_)
        clear hK K
        refine norm_ (a' := ?_) ?_ ?_
        rotate_left
        ·show Act.put _ (some 18) _ = _
         simp only [Act.put, List.setIfInBounds_toArray, List.set_cons_zero, List.set_cons_succ, i64_w, i32_w]
         rfl
        exact norm_ (by first | (simp only [putAll, Act.put, List.setIfInBounds_toArray, List.set_cons_zero, List.set_cons_succ]; done) | (simp only [putAll, Act.put, List.setIfInBounds_toArray, List.set_cons_zero, List.set_cons_succ]; rfl)) (hJ3_4_7_11 (v168) _ ⟨hHeld, (rw_ HO169.out), (bw_ BK165.out), (hb_ HB)⟩)
      rintro v168 w21 ⟨hS_, h0_, h1_, h2_⟩
      have n0_ : Aside0 (Kd.R (Kd.int .u8) 5 w21 w.heap.size (fun _ => True) v168 y167) := ⟨h0_⟩
      have n1_ : Aside0 (w21.heap[gb165]? = some (.cells #[.int .i64 a0_0, .int .i64 a0_1, .int .i64 a0_2, .string a0_3] 26 (0, 0))) := ⟨h1_⟩
      have n2_ : Aside0 (Below w.heap.size w w21) := ⟨h2_⟩
      clear BK165
      clear HB
      clear h0_ h1_ h2_
      have HO169 := n0_
      have BK165 := n1_
      have HB := n2_
      clear n0_ n1_ n2_
      have hHeld : w21.cell? ⟨gb165, 0, none⟩ = some (.int .i64 a0_0) ∧ w21.cell? ⟨gb165, 1, none⟩ = some (.int .i64 a0_1) ∧ w21.cell? ⟨gb165, 2, none⟩ = some (.int .i64 a0_2) ∧ w21.cell? ⟨gb165, 3, none⟩ = some (.string a0_3) := hS_
      refine norm_ (a' := ?_) ?_ ?_
      rotate_left
      ·simp only [putAll, Act.put, List.setIfInBounds_toArray, List.set_cons_zero, List.set_cons_succ]
       rfl
      refine pp_ (i := 12) (N := some 19) #[true, true, true, true, true, true, true, true, true, true, true, true, true, true, true, false, false] rfl rfl (any_of HT_.out (by kernel_rfl)) (h := ?_)
      refine pp_ (i := 15) (N := some 22) #[true, true, true, true, true, true, true, true, true, true, true, true, true, true, true, true, false] rfl rfl (any_of HT_.out (by kernel_rfl)) (h := ?_)
      refine pp_ (i := 16) (N := some 3) #[true, true, true, true, true, true, true, true, true, true, true, true, true, true, true, true, true] rfl rfl (any_of HT_.out (by kernel_rfl)) (h := ?_)
      refine done_ (done_of HT_.out (by kernel_rfl)) ?_
      try go_wp2_with (first | ((with_reducible refine gate_callee (f := 53) rfl ?_); refine ge_ (some 25) rfl rfl Try.func53 (by kernel_rfl) rfl #[.int .i64 (((strOfNums y167).size : Int) + (t170.size : Int) + (t171.size : Int) + (a0_3.size : Int))] rfl (h := ?_); (with_reducible refine (calamusref01_Num.calls (((strOfNums y167).size : Int) + (t170.size : Int) + (t171.size : Int) + (a0_3.size : Int)) t172 _ (by have h_ := A9.out; simp only [ByteArray.size_append, Int.natCast_add] at h_; exact h_)).mono ?_); rintro e w22 ⟨rfl, hb⟩; refine ⟨_, rfl, ?_⟩; replace HO169 := Aside0.mk (Kd.R_below (rw_ HO169.out) hb); replace BK165 := bb_ BK165 hb; replace HB := bs_ HB hb; (try clear hb); (try clear hb2); (try clear hk); (try clear hi)) | ((with_reducible refine gate_callee (f := 58) rfl ?_); refine ge_ (some 28) rfl rfl Try.func58 (by kernel_rfl) rfl #[.string (t172 ++ ((((strOfNums y167) ++ t170) ++ t171) ++ a0_3))] rfl (h := ?_); (with_reducible refine (calamusref02_Seal.calls k (t172 ++ ((((strOfNums y167) ++ t170) ++ t171) ++ a0_3)) t173 _ A11.out).mono ?_); rintro e w23 ⟨rfl, hb⟩; refine ⟨_, rfl, ?_⟩; replace HO169 := Aside0.mk (Kd.R_below (rw_ HO169.out) hb); replace BK165 := bb_ BK165 hb; replace HB := bs_ HB hb; (try clear hb); (try clear hb2); (try clear hk); (try clear hi)))
      go_ret
      exact ⟨er_, hb_ HB⟩
     ·rw [if_neg c10] at H
      exact absurd H (by simp)
    ·rw [if_neg c8] at H
     exact absurd H (by simp)
   ·rw [if_neg c7] at H
    exact absurd H (by simp)
  ·rw [if_neg c5] at H
   exact absurd H (by simp)
 ·replace c3 := Bool.eq_false_iff.mpr c3
  subst c3
  have H1 : (some (⟨#[]⟩ : ByteArray)) = some r := by rw [if_neg (show ¬ (false = true) by decide)] at H; exact H
  clear H
  have H := H1
  clear H1
  obtain rfl := Option.some.inj H
  go_enter Try.func23, Try.ntmps23
  go_wp2_with (first | ((with_reducible refine gate_dst (N := 1) rfl ?_); refine be_ (N := 1) (cs := #[.int .i64 a0_0, .int .i64 a0_1, .int .i64 a0_2, .string a0_3]) (t := 26) (h := ?_); intro gb165 hg w24 hbox hb; have BK165 := Aside0.mk (hbox); have GW165 := gw_ HB hg; have GE165 := gw_ HB hg; replace HB := bs_ HB hb; clear hb hbox hg; obtain ⟨hcz25_0, hcz25_1, hcz25_2, hcz25_3, hfz25_0, hfz25_1, hfz25_2, hfz25_3⟩ := bc4_ BK165) | ((with_reducible refine gate_callee (f := 21) rfl ?_); refine ge_ (some 5) rfl rfl Try.func21 (by kernel_rfl) rfl #[.agg #[.int .i64 a0_0, .int .i64 a0_1, .int .i64 a0_2, .string a0_3]] rfl (h := ?_); (with_reducible refine (calamusref33_Right.calls a0_0 a0_1 a0_2 a0_3 false _ A2.out).mono ?_); rintro e w26 ⟨rfl, hb⟩; refine ⟨_, rfl, ?_⟩; replace BK165 := bb_ BK165 hb; replace HB := bs_ HB hb; (try clear hb); (try clear hb2); (try clear hk); (try clear hi)))
  go_ret
  exact ⟨er_, hb_ HB⟩

end Go.Proofs.Ytealbonfaebikaa.PRecordWrites
