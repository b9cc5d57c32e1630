/- Of the law calamus/calamuslaw33.RecordWrites: each function as a plain Lean function, with a proof that the call comes to it; the row. By wip/tpl/own_print.py. Conditions: none but the row's own. -/
import Derived.Test.YtealbonfaebikaaORecordWritesx0
import Derived.Test.YtealbonfaebikaaORecordWritesx1
import Derived.Test.YtealbonfaebikaaORecordWritesx2
import Derived.Test.YtealbonfaebikaaORecordWritesx3
import Derived.Test.YtealbonfaebikaaORecordWritesx4
import Derived.Test.YtealbonfaebikaaORecordWritesx6
namespace Go.Proofs.Ytealbonfaebikaa.PRecordWrites
open Go.RowKit Go.Proofs.YtealbonfaebikaaW.PrintWords Go.Proofs.YtealbonfaebikaaW.PrintLast Go.Proofs.YtealbonfaebikaaW.PrintMore
attribute [local go_sem] max2_int min2_int max_two min_two max_three min_three max_four min_four   -- for this text's walks alone
set_option linter.unusedVariables false
set_option linter.unusedSimpArgs false

/-! ### calamuslaw33_RecordWrites: function 4 -/
def calamuslaw33_RecordWrites.f (k : Nat) (a0_0 : Int) (a0_1 : Int) (a0_2 : Int) (a0_3 : ByteArray) : Option (Bool) := (record_Told.f k a0_0 a0_1 a0_2 a0_3).bind fun bt175 => ((calamusref33_Told.f k a0_0 a0_1 a0_2 a0_3).bind fun bt178 => ((record_Right.f a0_0 a0_1 a0_2 a0_3).bind fun t181 => ((calamusref33_Right.f a0_0 a0_1 a0_2 a0_3).bind fun t182 => (if (t181 == t182) = true then ((record_Bytes.f k a0_0 a0_1 a0_2 a0_3).bind fun t183 => ((calamusref33_Bytes.f k a0_0 a0_1 a0_2 a0_3).bind fun t184 => (if t183.toList = t184.toList then (if bt175.1 = bt178.1 then (if bt175.2.1 = bt178.2.1 then (if (bt175.2.2 == bt178.2.2) = true then ((calamuslaw33_lives.f k).bind fun t185 => (some t185)) else (some false)) else (some false)) else (some false)) else (some false)))) else (some false)))))
theorem calamuslaw33_RecordWrites.mono : ∀ a0 a1 a2 a3 k, LeO (calamuslaw33_RecordWrites.f k a0 a1 a2 a3) (calamuslaw33_RecordWrites.f (k + 1) a0 a1 a2 a3) := by
 intro a0 a1 a2 a3 k
 unfold calamuslaw33_RecordWrites.f
 repeat' first
   | (with_reducible exact calamuslaw33_lives.mono _)
   | (with_reducible exact calamusref33_Bytes.mono _ _ _ _ _)
   | (with_reducible exact calamusref33_Told.mono _ _ _ _ _)
   | (with_reducible exact record_Bytes.mono _ _ _ _ _)
   | (with_reducible exact record_Told.mono _ _ _ _ _)
   | (with_reducible exact LeO.refl _)
   | (with_reducible exact LeO.none _)
   | (with_reducible refine LeO.ite ?_ ?_)
   | (with_reducible refine LeO.bind ?_ (fun _ => ?_))
   | exact calamuslaw33_lives.mono _
   | exact calamusref33_Bytes.mono _ _ _ _ _
   | exact calamusref33_Told.mono _ _ _ _ _
   | exact record_Bytes.mono _ _ _ _ _
   | exact record_Told.mono _ _ _ _ _
   | exact LeO.none _
   | refine LeO.ite ?_ ?_
   | refine LeO.bind ?_ (fun _ => ?_)
def calamuslaw33_RecordWrites.T3 : Bool × List (List Nat × List Nat) := (true, [([], []), ([0], [0]), ([], []), ([2, 1], [2]), ([1, 3], [1, 3]), ([4, 3], [4]), ([5], [5]), ([6, 5, 5], [5, 6]), ([5], [5]), ([8, 7, 5], [5, 8]), ([7, 9, 5], [5, 7, 9]), ([5, 10], [5, 10]), ([11, 9], [11]), ([12], [12]), ([12], [12]), ([13, 14, 12], [12, 13, 14]), ([12, 15], [12, 15]), ([16, 12], [16]), ([17], [17]), ([17], [17]), ([18, 19, 17], [17, 18, 19]), ([17, 20], [17, 20]), ([21, 17], [21]), ([22], [22]), ([22], [22]), ([23, 24, 22], [22, 23, 24]), ([22, 25], [22, 25]), ([26, 22], [26]), ([27, 27], [27]), ([27, 28], [27, 28]), ([29, 28, 0, 1, 2, 3, 4, 5, 6, 7, 8, 9, 10, 11, 12, 13, 14, 15, 16, 17, 18, 19, 20, 21, 22, 23, 24, 25, 26, 27, 28, 29], [29])])
def calamuslaw33_RecordWrites.B3 : List Nat := [0, 1, 0, 7, 15, 31, 63, 127, 63, 511, 1023, 2047, 4095, 8191, 8191, 32767, 65535, 131071, 262143, 262143, 1048575, 2097151, 4194303, 8388607, 8388607, 33554431, 67108863, 134217727, 268435455, 536870911, 1073741823]
theorem calamuslaw33_RecordWrites.tab3 : rtab .any (opsOf Try.f4 3) = calamuslaw33_RecordWrites.T3 := by kernel_rfl
theorem calamuslaw33_RecordWrites.bits3 : waitsOk calamuslaw33_RecordWrites.T3.2 calamuslaw33_RecordWrites.B3 = true := by kernel_rfl
set_option maxHeartbeats 8000000 in
set_option maxRecDepth 100000 in
theorem calamuslaw33_RecordWrites.calls (k : Nat) (a0_0 : Int) (a0_1 : Int) (a0_2 : Int) (a0_3 : ByteArray) (r : Bool) (w : World) (h : calamuslaw33_RecordWrites.f k a0_0 a0_1 a0_2 a0_3 = some r) (hr_ : r = true := by rfl) :
  Calls Try.prog 4 #[.agg #[.int .i64 a0_0, .int .i64 a0_1, .int .i64 a0_2, .string a0_3]] w fun e w' => e = .returned (.bool r) ∧ Below w.heap.size w w' := by
 have hu26 := Try.underlying26
 have HB := Aside0.mk (Below.refl w.heap.size w)
 have H : ((record_Told.f k a0_0 a0_1 a0_2 a0_3).bind fun bt175 => ((calamusref33_Told.f k a0_0 a0_1 a0_2 a0_3).bind fun bt178 => ((record_Right.f a0_0 a0_1 a0_2 a0_3).bind fun t181 => ((calamusref33_Right.f a0_0 a0_1 a0_2 a0_3).bind fun t182 => (if (t181 == t182) = true then ((record_Bytes.f k a0_0 a0_1 a0_2 a0_3).bind fun t183 => ((calamusref33_Bytes.f k a0_0 a0_1 a0_2 a0_3).bind fun t184 => (if t183.toList = t184.toList then (if bt175.1 = bt178.1 then (if bt175.2.1 = bt178.2.1 then (if (bt175.2.2 == bt178.2.2) = true then ((calamuslaw33_lives.f k).bind fun t185 => (some t185)) else (some false)) else (some false)) else (some false)) else (some false)))) else (some false)))))) = some r := h
 clear h
 replace H := Option.bind_eq_some_iff.mp H
 obtain ⟨⟨t175, t176, t177⟩, A20, H⟩ := H
 replace H : ((calamusref33_Told.f k a0_0 a0_1 a0_2 a0_3).bind fun bt178 => ((record_Right.f a0_0 a0_1 a0_2 a0_3).bind fun t181 => ((calamusref33_Right.f a0_0 a0_1 a0_2 a0_3).bind fun t182 => (if (t181 == t182) = true then ((record_Bytes.f k a0_0 a0_1 a0_2 a0_3).bind fun t183 => ((calamusref33_Bytes.f k a0_0 a0_1 a0_2 a0_3).bind fun t184 => (if t183.toList = t184.toList then (if t175 = bt178.1 then (if t176 = bt178.2.1 then (if (t177 == bt178.2.2) = true then ((calamuslaw33_lives.f k).bind fun t185 => (some t185)) else (some false)) else (some false)) else (some false)) else (some false)))) else (some false))))) = some r := H
 have A2 := Aside0.mk A20
 clear A20
 replace H := Option.bind_eq_some_iff.mp H
 obtain ⟨⟨t178, t179, t180⟩, A30, H⟩ := H
 replace H : ((record_Right.f a0_0 a0_1 a0_2 a0_3).bind fun t181 => ((calamusref33_Right.f a0_0 a0_1 a0_2 a0_3).bind fun t182 => (if (t181 == t182) = true then ((record_Bytes.f k a0_0 a0_1 a0_2 a0_3).bind fun t183 => ((calamusref33_Bytes.f k a0_0 a0_1 a0_2 a0_3).bind fun t184 => (if t183.toList = t184.toList then (if t175 = t178 then (if t176 = t179 then (if (t177 == t180) = true then ((calamuslaw33_lives.f k).bind fun t185 => (some t185)) else (some false)) else (some false)) else (some false)) else (some false)))) else (some false)))) = some r := H
 have A3 := Aside0.mk A30
 clear A30
 replace H := Option.bind_eq_some_iff.mp H
 obtain ⟨t181, A40, H⟩ := H
 replace H : ((calamusref33_Right.f a0_0 a0_1 a0_2 a0_3).bind fun t182 => (if (t181 == t182) = true then ((record_Bytes.f k a0_0 a0_1 a0_2 a0_3).bind fun t183 => ((calamusref33_Bytes.f k a0_0 a0_1 a0_2 a0_3).bind fun t184 => (if t183.toList = t184.toList then (if t175 = t178 then (if t176 = t179 then (if (t177 == t180) = true then ((calamuslaw33_lives.f k).bind fun t185 => (some t185)) else (some false)) else (some false)) else (some false)) else (some false)))) else (some false))) = some r := H
 have A4 := Aside0.mk A40
 clear A40
 replace H := Option.bind_eq_some_iff.mp H
 obtain ⟨t182, A50, H⟩ := H
 replace H : (if (t181 == t182) = true then ((record_Bytes.f k a0_0 a0_1 a0_2 a0_3).bind fun t183 => ((calamusref33_Bytes.f k a0_0 a0_1 a0_2 a0_3).bind fun t184 => (if t183.toList = t184.toList then (if t175 = t178 then (if t176 = t179 then (if (t177 == t180) = true then ((calamuslaw33_lives.f k).bind fun t185 => (some t185)) else (some false)) else (some false)) else (some false)) else (some false)))) else (some false)) = some r := H
 have A5 := Aside0.mk A50
 clear A50
 by_cases c6 : (t181 == t182) = true
 ·rw [if_pos c6] at H
  have c6b0 : (t181 == t182) = true := c6
  (try (have c6b1 : decide (t181 = t182) = true := by simpa using c6))
  (try (have c6b2 : (t181 == t182) = true := by simpa using c6))
  clear c6
  replace H := Option.bind_eq_some_iff.mp H
  obtain ⟨t183, A70, H⟩ := H
  replace H : ((calamusref33_Bytes.f k a0_0 a0_1 a0_2 a0_3).bind fun t184 => (if t183.toList = t184.toList then (if t175 = t178 then (if t176 = t179 then (if (t177 == t180) = true then ((calamuslaw33_lives.f k).bind fun t185 => (some t185)) else (some false)) else (some false)) else (some false)) else (some false))) = some r := H
  have A7 := Aside0.mk A70
  clear A70
  replace H := Option.bind_eq_some_iff.mp H
  obtain ⟨t184, A80, H⟩ := H
  replace H : (if t183.toList = t184.toList then (if t175 = t178 then (if t176 = t179 then (if (t177 == t180) = true then ((calamuslaw33_lives.f k).bind fun t185 => (some t185)) else (some false)) else (some false)) else (some false)) else (some false)) = some r := H
  have A8 := Aside0.mk A80
  clear A80
  by_cases c9 : t183.toList = t184.toList
  ·rw [if_pos c9] at H
   have c9b0 : (t183.toList == t184.toList) = true := beq_iff_eq.mpr c9
   have c9b1 : (t183.toList != t184.toList) = false := bne_eq_false_iff_eq.mpr c9
   clear c9
   by_cases c10 : t175 = t178
   ·rw [if_pos c10] at H
    have c10b0 : (t175 == t178) = true := beq_iff_eq.mpr c10
    have c10b1 : (t175 != t178) = false := bne_eq_false_iff_eq.mpr c10
    clear c10
    by_cases c11 : t176 = t179
    ·rw [if_pos c11] at H
     have c11b0 : (t176 == t179) = true := beq_iff_eq.mpr c11
     have c11b1 : (t176 != t179) = false := bne_eq_false_iff_eq.mpr c11
     clear c11
     by_cases c12 : (t177 == t180) = true
     ·rw [if_pos c12] at H
      have c12b0 : (t177 == t180) = true := c12
      (try (have c12b1 : decide (t177 = t180) = true := by simpa using c12))
      (try (have c12b2 : (t177 == t180) = true := by simpa using c12))
      clear c12
      replace H := Option.bind_eq_some_iff.mp H
      obtain ⟨t185, A130, H⟩ := H
      replace H : (some t185) = some r := H
      have A13 := Aside0.mk A130
      clear A130
      obtain rfl := Option.some.inj H
      go_enter Try.func4, Try.ntmps4
      try go_wp2_with (first | ((with_reducible refine gate_dst (N := 1) rfl ?_); refine be_ (N := 1) (cs := #[.int .i64 a0_0, .int .i64 a0_1, .int .i64 a0_2, .string a0_3]) (t := 26) (h := ?_); intro gb174 hg w14 hbox hb; have BK174 := Aside0.mk (hbox); have GW174 := gw_ HB hg; have GE174 := gw_ HB hg; replace HB := bs_ HB hb; clear hb hbox hg; obtain ⟨hcz15_0, hcz15_1, hcz15_2, hcz15_3, hfz15_0, hfz15_1, hfz15_2, hfz15_3⟩ := bc4_ BK174) | ((with_reducible refine gate_callee (f := 18) rfl ?_); refine ge_ (some 11) rfl rfl Try.func18 (by kernel_rfl) rfl #[.agg #[.int .i64 a0_0, .int .i64 a0_1, .int .i64 a0_2, .string a0_3]] rfl (h := ?_); (with_reducible refine (record_Told.calls k a0_0 a0_1 a0_2 a0_3 t175 t176 t177 _ A2.out).mono ?_); rintro e w16 ⟨rfl, hb⟩; refine ⟨_, rfl, ?_⟩; replace BK174 := bb_ BK174 hb; replace HB := bs_ HB hb; (try clear hb); (try clear hb2); (try clear hk); (try clear hi); obtain ⟨hcz17_0, hcz17_1, hcz17_2, hcz17_3, hfz17_0, hfz17_1, hfz17_2, hfz17_3⟩ := bc4_ BK174) | ((with_reducible refine gate_callee (f := 19) rfl ?_); refine ge_ (some 17) rfl rfl Try.func19 (by kernel_rfl) rfl #[.agg #[.int .i64 a0_0, .int .i64 a0_1, .int .i64 a0_2, .string a0_3]] rfl (h := ?_); (with_reducible refine (calamusref33_Told.calls k a0_0 a0_1 a0_2 a0_3 t178 t179 t180 _ A3.out).mono ?_); rintro e w18 ⟨rfl, hb⟩; refine ⟨_, rfl, ?_⟩; replace BK174 := bb_ BK174 hb; replace HB := bs_ HB hb; (try clear hb); (try clear hb2); (try clear hk); (try clear hi)))
      have n0_ := Aside0.mk (blk_drew BK174.out)
      have n1_ := Aside0.mk (below_drew1 HB.out)
      clear BK174
      clear HB
      have BK174 := n0_
      have HB := n1_
      clear n0_ n1_
      refine start_ (n := 31) (S := fun w' => w'.cell? ⟨gb174, 0, none⟩ = some (.int .i64 a0_0) ∧ w'.cell? ⟨gb174, 1, none⟩ = some (.int .i64 a0_1) ∧ w'.cell? ⟨gb174, 2, none⟩ = some (.int .i64 a0_2) ∧ w'.cell? ⟨gb174, 3, none⟩ = some (.string a0_3)) (ds := []) #[false, false, false, false, false, false, false, false, false, false, false, false, false, false, false, false, false, false, false, false, false, false, false, false, false, false, false, false, false, false, false] (by kernel_rfl) rfl rfl ⟨(blk_cell BK174.out 0).trans rfl, (blk_cell BK174.out 1).trans rfl, (blk_cell BK174.out 2).trans rfl, (blk_cell BK174.out 3).trans rfl⟩ (fun hHeld => ?_); refine with_tabW calamuslaw33_RecordWrites.tab3 calamuslaw33_RecordWrites.bits3 (fun HT_ HW_ => ?_)
      generalize w18.drew = w19 at BK174 HB hHeld ⊢
      refine take_ (i := 0) (N := some 21) (v := ?_) (a' := ?_) #[true, false, false, false, false, false, false, false, false, false, false, false, false, false, false, false, false, false, false, false, false, false, false, false, false, false, false, false, false, false, false] rfl rfl (take_ofW HT_.out HW_.out (by kernel_rfl)) (fun _ _ _ h => h) (Or.inl ⟨by rfl, ?_⟩) hHeld ?_ ?_
      rotate_left
      ·rintro w' ⟨s0, s1, s2, s3⟩
       go_simp
       with_reducible rfl
      rotate_left
      ·simp only [Act.put, List.setIfInBounds_toArray, List.set_cons_zero, List.set_cons_succ, i64_w, i32_w]
       rfl
      refine take_ (i := 2) (N := some 23) (v := ?_) (a' := ?_) #[true, false, true, false, false, false, false, false, false, false, false, false, false, false, false, false, false, false, false, false, false, false, false, false, false, false, false, false, false, false, false] rfl rfl (take_ofW HT_.out HW_.out (by kernel_rfl)) (fun _ _ _ h => h) (Or.inl ⟨by rfl, ?_⟩) hHeld ?_ ?_
      rotate_left
      ·rintro w' ⟨s0, s1, s2, s3⟩
       go_simp
       with_reducible rfl
      rotate_left
      ·simp only [Act.put, List.setIfInBounds_toArray, List.set_cons_zero, List.set_cons_succ, i64_w, i32_w]
       rfl
      refine one_ (i := 1) (N := some 22) #[true, true, true, false, false, false, false, false, false, false, false, false, false, false, false, false, false, false, false, false, false, false, false, false, false, false, false, false, false, false, false] rfl rfl (one_of HT_.out (by kernel_rfl)) (by decide) (fun K hK => ?_)
      refine goes_ Try.func20 (by kernel_rfl) rfl #[.agg #[.int .i64 a0_0, .int .i64 a0_1, .int .i64 a0_2, .string a0_3]] (by rfl) rfl rfl (by (try simp only [List.map_toArray, List.map_cons, List.map_nil]); first | done | rfl | (simp only [List.length_drop, List.length_take]; rfl)) ?_
      with_reducible refine (record_Right.calls a0_0 a0_1 a0_2 a0_3 t181 _ A4.out).mono ?_
      rintro e w20 ⟨rfl, hb⟩
      refine ⟨_, rfl, ?_⟩
      have n0_ := bb_ BK174 hb
      have n1_ := bs_ HB hb
      clear BK174
      clear HB
      have BK174 := n0_
      have HB := n1_
      clear n0_ n1_
      (try clear hb)
      (try clear hb2)
      (try clear hk)
      (try clear hi)
      refine hK.out _ _ ⟨(blk_cell BK174.out 0).trans rfl, (blk_cell BK174.out 1).trans rfl, (blk_cell BK174.out 2).trans rfl, (blk_cell BK174.out 3).trans rfl⟩ (fun hHeld => ?_)
      clear hK K
      refine norm_ (a' := ?_) ?_ ?_
      rotate_left
      ·show Act.put _ (some 22) _ = _
       simp only [Act.put, List.setIfInBounds_toArray, List.set_cons_zero, List.set_cons_succ, i64_w, i32_w]
       rfl
      refine one_ (i := 3) (N := some 24) #[true, true, true, true, false, false, false, false, false, false, false, false, false, false, false, false, false, false, false, false, false, false, false, false, false, false, false, false, false, false, false] rfl rfl (one_of HT_.out (by kernel_rfl)) (by decide) (fun K hK => ?_)
      refine goes_ Try.func21 (by kernel_rfl) rfl #[.agg #[.int .i64 a0_0, .int .i64 a0_1, .int .i64 a0_2, .string a0_3]] (by rfl) rfl rfl (by (try simp only [List.map_toArray, List.map_cons, List.map_nil]); first | done | rfl | (simp only [List.length_drop, List.length_take]; rfl)) ?_
      with_reducible refine (calamusref33_Right.calls a0_0 a0_1 a0_2 a0_3 t182 _ A5.out).mono ?_
      rintro e w21 ⟨rfl, hb⟩
      refine ⟨_, rfl, ?_⟩
      have n0_ := bb_ BK174 hb
      have n1_ := bs_ HB hb
      clear BK174
      clear HB
      have BK174 := n0_
      have HB := n1_
      clear n0_ n1_
      (try clear hb)
      (try clear hb2)
      (try clear hk)
      (try clear hi)
      refine hK.out _ _ ⟨(blk_cell BK174.out 0).trans rfl, (blk_cell BK174.out 1).trans rfl, (blk_cell BK174.out 2).trans rfl, (blk_cell BK174.out 3).trans rfl⟩ (fun hHeld => ?_)
      clear hK K
      refine norm_ (a' := ?_) ?_ ?_
      rotate_left
      ·show Act.put _ (some 24) _ = _
       simp only [Act.put, List.setIfInBounds_toArray, List.set_cons_zero, List.set_cons_succ, i64_w, i32_w]
       rfl
      refine pp_ (i := 4) (N := some 25) #[true, true, true, true, true, false, false, false, false, false, false, false, false, false, false, false, false, false, false, false, false, false, false, false, false, false, false, false, false, false, false] rfl rfl (any_of HT_.out (by kernel_rfl)) (h := ?_)
      refine pp_ (i := 5) (N := some 26) #[true, true, true, true, true, true, false, false, false, false, false, false, false, false, false, false, false, false, false, false, false, false, false, false, false, false, false, false, false, false, false] rfl rfl (any_of HT_.out (by kernel_rfl)) (h := ?_)
      refine take_ (i := 6) (N := some 27) (v := ?_) (a' := ?_) #[true, true, true, true, true, true, true, false, false, false, false, false, false, false, false, false, false, false, false, false, false, false, false, false, false, false, false, false, false, false, false] rfl rfl (take_ofW HT_.out HW_.out (by kernel_rfl)) (fun _ _ _ h => h) (Or.inl ⟨by rfl, ?_⟩) hHeld ?_ ?_
      rotate_left
      ·rintro w' ⟨s0, s1, s2, s3⟩
       go_simp
       with_reducible rfl
      rotate_left
      ·simp only [Act.put, List.setIfInBounds_toArray, List.set_cons_zero, List.set_cons_succ, i64_w, i32_w]
       rfl
      refine take_ (i := 8) (N := some 29) (v := ?_) (a' := ?_) #[true, true, true, true, true, true, true, false, true, false, false, false, false, false, false, false, false, false, false, false, false, false, false, false, false, false, false, false, false, false, false] rfl rfl (take_ofW HT_.out HW_.out (by kernel_rfl)) (fun _ _ _ h => h) (Or.inl ⟨by rfl, ?_⟩) hHeld ?_ ?_
      rotate_left
      ·rintro w' ⟨s0, s1, s2, s3⟩
       go_simp
       with_reducible rfl
      rotate_left
      ·simp only [Act.put, List.setIfInBounds_toArray, List.set_cons_zero, List.set_cons_succ, i64_w, i32_w]
       rfl
      refine one_ (i := 7) (N := some 28) #[true, true, true, true, true, true, true, true, true, false, false, false, false, false, false, false, false, false, false, false, false, false, false, false, false, false, false, false, false, false, false] rfl rfl (one_of HT_.out (by kernel_rfl)) (by decide) (fun K hK => ?_)
      refine goes_ Try.func22 (by kernel_rfl) rfl #[.agg #[.int .i64 a0_0, .int .i64 a0_1, .int .i64 a0_2, .string a0_3]] (by rfl) rfl rfl (by (try simp only [List.map_toArray, List.map_cons, List.map_nil]); first | done | rfl | (simp only [List.length_drop, List.length_take]; rfl)) ?_
      with_reducible refine (record_Bytes.calls k a0_0 a0_1 a0_2 a0_3 t183 _ A7.out).mono ?_
      rintro e w22 ⟨rfl, hb⟩
      refine ⟨_, rfl, ?_⟩
      have n0_ := bb_ BK174 hb
      have n1_ := bs_ HB hb
      clear BK174
      clear HB
      have BK174 := n0_
      have HB := n1_
      clear n0_ n1_
      (try clear hb)
      (try clear hb2)
      (try clear hk)
      (try clear hi)
      refine hK.out _ _ ⟨(blk_cell BK174.out 0).trans rfl, (blk_cell BK174.out 1).trans rfl, (blk_cell BK174.out 2).trans rfl, (blk_cell BK174.out 3).trans rfl⟩ (fun hHeld => ?_)
      clear hK K
      refine norm_ (a' := ?_) ?_ ?_
      rotate_left
      ·show Act.put _ (some 28) _ = _
       simp only [Act.put, List.setIfInBounds_toArray, List.set_cons_zero, List.set_cons_succ, i64_w, i32_w]
       rfl
      refine one_ (i := 9) (N := some 30) #[true, true, true, true, true, true, true, true, true, true, false, false, false, false, false, false, false, false, false, false, false, false, false, false, false, false, false, false, false, false, false] rfl rfl (one_of HT_.out (by kernel_rfl)) (by decide) (fun K hK => ?_)
      refine goes_ Try.func23 (by kernel_rfl) rfl #[.agg #[.int .i64 a0_0, .int .i64 a0_1, .int .i64 a0_2, .string a0_3]] (by rfl) rfl rfl (by (try simp only [List.map_toArray, List.map_cons, List.map_nil]); first | done | rfl | (simp only [List.length_drop, List.length_take]; rfl)) ?_
      with_reducible refine (calamusref33_Bytes.calls k a0_0 a0_1 a0_2 a0_3 t184 _ A8.out).mono ?_
      rintro e w23 ⟨rfl, hb⟩
      refine ⟨_, rfl, ?_⟩
      have n0_ := bb_ BK174 hb
      have n1_ := bs_ HB hb
      clear BK174
      clear HB
      have BK174 := n0_
      have HB := n1_
      clear n0_ n1_
      (try clear hb)
      (try clear hb2)
      (try clear hk)
      (try clear hi)
      refine hK.out _ _ ⟨(blk_cell BK174.out 0).trans rfl, (blk_cell BK174.out 1).trans rfl, (blk_cell BK174.out 2).trans rfl, (blk_cell BK174.out 3).trans rfl⟩ (fun hHeld => ?_)
      clear hK K
      refine norm_ (a' := ?_) ?_ ?_
      rotate_left
      ·show Act.put _ (some 30) _ = _
       simp only [Act.put, List.setIfInBounds_toArray, List.set_cons_zero, List.set_cons_succ, i64_w, i32_w]
       rfl
      refine pp_ (i := 10) (N := some 31) #[true, true, true, true, true, true, true, true, true, true, true, false, false, false, false, false, false, false, false, false, false, false, false, false, false, false, false, false, false, false, false] rfl rfl (any_of HT_.out (by kernel_rfl)) (h := ?_)
      refine pp_ (i := 11) (N := some 32) #[true, true, true, true, true, true, true, true, true, true, true, true, false, false, false, false, false, false, false, false, false, false, false, false, false, false, false, false, false, false, false] rfl rfl (any_of HT_.out (by kernel_rfl)) (h := ?_)
      refine pp_ (i := 12) (N := some 33) #[true, true, true, true, true, true, true, true, true, true, true, true, true, false, false, false, false, false, false, false, false, false, false, false, false, false, false, false, false, false, false] rfl rfl (any_of HT_.out (by kernel_rfl)) (h := ?_)
      refine pp_ (i := 13) (N := some 34) #[true, true, true, true, true, true, true, true, true, true, true, true, true, true, false, false, false, false, false, false, false, false, false, false, false, false, false, false, false, false, false] rfl rfl (any_of HT_.out (by kernel_rfl)) (h := ?_)
      refine pp_ (i := 14) (N := some 35) #[true, true, true, true, true, true, true, true, true, true, true, true, true, true, true, false, false, false, false, false, false, false, false, false, false, false, false, false, false, false, false] rfl rfl (any_of HT_.out (by kernel_rfl)) (h := ?_)
      refine pp_ (i := 15) (N := some 36) #[true, true, true, true, true, true, true, true, true, true, true, true, true, true, true, true, false, false, false, false, false, false, false, false, false, false, false, false, false, false, false] rfl rfl (any_of HT_.out (by kernel_rfl)) (h := ?_)
      refine pp_ (i := 16) (N := some 37) #[true, true, true, true, true, true, true, true, true, true, true, true, true, true, true, true, true, false, false, false, false, false, false, false, false, false, false, false, false, false, false] rfl rfl (any_of HT_.out (by kernel_rfl)) (h := ?_)
      refine pp_ (i := 17) (N := some 38) #[true, true, true, true, true, true, true, true, true, true, true, true, true, true, true, true, true, true, false, false, false, false, false, false, false, false, false, false, false, false, false] rfl rfl (any_of HT_.out (by kernel_rfl)) (h := ?_)
      refine pp_ (i := 18) (N := some 39) #[true, true, true, true, true, true, true, true, true, true, true, true, true, true, true, true, true, true, true, false, false, false, false, false, false, false, false, false, false, false, false] rfl rfl (any_of HT_.out (by kernel_rfl)) (h := ?_)
      refine pp_ (i := 19) (N := some 40) #[true, true, true, true, true, true, true, true, true, true, true, true, true, true, true, true, true, true, true, true, false, false, false, false, false, false, false, false, false, false, false] rfl rfl (any_of HT_.out (by kernel_rfl)) (h := ?_)
      refine pp_ (i := 20) (N := some 41) #[true, true, true, true, true, true, true, true, true, true, true, true, true, true, true, true, true, true, true, true, true, false, false, false, false, false, false, false, false, false, false] rfl rfl (any_of HT_.out (by kernel_rfl)) (h := ?_)
      refine pp_ (i := 21) (N := some 42) #[true, true, true, true, true, true, true, true, true, true, true, true, true, true, true, true, true, true, true, true, true, true, false, false, false, false, false, false, false, false, false] rfl rfl (any_of HT_.out (by kernel_rfl)) (h := ?_)
      refine pp_ (i := 22) (N := some 43) #[true, true, true, true, true, true, true, true, true, true, true, true, true, true, true, true, true, true, true, true, true, true, true, false, false, false, false, false, false, false, false] rfl rfl (any_of HT_.out (by kernel_rfl)) (h := ?_)
      refine pp_ (i := 23) (N := some 44) #[true, true, true, true, true, true, true, true, true, true, true, true, true, true, true, true, true, true, true, true, true, true, true, true, false, false, false, false, false, false, false] rfl rfl (any_of HT_.out (by kernel_rfl)) (h := ?_)
      refine pp_ (i := 24) (N := some 45) #[true, true, true, true, true, true, true, true, true, true, true, true, true, true, true, true, true, true, true, true, true, true, true, true, true, false, false, false, false, false, false] rfl rfl (any_of HT_.out (by kernel_rfl)) (h := ?_)
      refine pp_ (i := 25) (N := some 46) #[true, true, true, true, true, true, true, true, true, true, true, true, true, true, true, true, true, true, true, true, true, true, true, true, true, true, false, false, false, false, false] rfl rfl (any_of HT_.out (by kernel_rfl)) (h := ?_)
      refine pp_ (i := 26) (N := some 47) #[true, true, true, true, true, true, true, true, true, true, true, true, true, true, true, true, true, true, true, true, true, true, true, true, true, true, true, false, false, false, false] rfl rfl (any_of HT_.out (by kernel_rfl)) (h := ?_)
      refine pp_ (i := 27) (N := some 48) #[true, true, true, true, true, true, true, true, true, true, true, true, true, true, true, true, true, true, true, true, true, true, true, true, true, true, true, true, false, false, false] rfl rfl (any_of HT_.out (by kernel_rfl)) (h := ?_)
      refine one_ (i := 28) (N := some 49) #[true, true, true, true, true, true, true, true, true, true, true, true, true, true, true, true, true, true, true, true, true, true, true, true, true, true, true, true, true, false, false] rfl rfl (one_of HT_.out (by kernel_rfl)) (by decide) (fun K hK => ?_)
      refine goes_ Try.func17 (by kernel_rfl) rfl #[] (by rfl) rfl rfl (by (try simp only [List.map_toArray, List.map_cons, List.map_nil]); first | done | rfl | (simp only [List.length_drop, List.length_take]; rfl)) ?_
      with_reducible refine (calamuslaw33_lives.calls k  t185 _ A13.out).mono ?_
      rintro e w24 ⟨rfl, hb⟩
      refine ⟨_, rfl, ?_⟩
      have n0_ := bb_ BK174 hb
      have n1_ := bs_ HB hb
      clear BK174
      clear HB
      have BK174 := n0_
      have HB := n1_
      clear n0_ n1_
      (try clear hb)
      (try clear hb2)
      (try clear hk)
      (try clear hi)
      refine hK.out _ _ ⟨(blk_cell BK174.out 0).trans rfl, (blk_cell BK174.out 1).trans rfl, (blk_cell BK174.out 2).trans rfl, (blk_cell BK174.out 3).trans rfl⟩ (fun hHeld => ?_)
      clear hK K
      refine norm_ (a' := ?_) ?_ ?_
      rotate_left
      ·show Act.put _ (some 49) _ = _
       simp only [Act.put, List.setIfInBounds_toArray, List.set_cons_zero, List.set_cons_succ, i64_w, i32_w]
       rfl
      refine pp_ (i := 29) (N := some 50) #[true, true, true, true, true, true, true, true, true, true, true, true, true, true, true, true, true, true, true, true, true, true, true, true, true, true, true, true, true, true, false] rfl rfl (any_of HT_.out (by kernel_rfl)) (h := ?_)
      refine pp_ (i := 30) (N := some 2) #[true, true, true, true, true, true, true, true, true, true, true, true, true, true, true, true, true, true, true, true, true, true, true, true, true, true, true, true, true, true, true] rfl rfl (any_of HT_.out (by kernel_rfl)) (h := ?_)
      refine done_ (done_of HT_.out (by kernel_rfl)) ?_
      try go_wp2
      go_ret
      exact ⟨er_, hb_ HB⟩
     ·rw [if_neg c12] at H
      have c12b0 : (t177 == t180) = false := by simpa using c12
      (try (have c12b1 : decide (t177 = t180) = false := by simpa using c12))
      (try (have c12b2 : (t177 == t180) = false := by simpa using c12))
      (try (have c12b3 : ¬ (t177 = t180) := by simpa using c12))
      clear c12
      exact nf_ H hr_
    ·rw [if_neg c11] at H
     have c11b0 : (t176 == t179) = false := beq_eq_false_iff_ne.mpr c11
     have c11b1 : (t176 != t179) = true := bne_iff_ne.mpr c11
     exact nf_ H hr_
   ·rw [if_neg c10] at H
    have c10b0 : (t175 == t178) = false := beq_eq_false_iff_ne.mpr c10
    have c10b1 : (t175 != t178) = true := bne_iff_ne.mpr c10
    exact nf_ H hr_
  ·rw [if_neg c9] at H
   have c9b0 : (t183.toList == t184.toList) = false := beq_eq_false_iff_ne.mpr c9
   have c9b1 : (t183.toList != t184.toList) = true := bne_iff_ne.mpr c9
   exact nf_ H hr_
 ·rw [if_neg c6] at H
  have c6b0 : (t181 == t182) = false := by simpa using c6
  (try (have c6b1 : decide (t181 = t182) = false := by simpa using c6))
  (try (have c6b2 : (t181 == t182) = false := by simpa using c6))
  (try (have c6b3 : ¬ (t181 = t182) := by simpa using c6))
  clear c6
  exact nf_ H hr_
end Go.Proofs.Ytealbonfaebikaa.PRecordWrites
