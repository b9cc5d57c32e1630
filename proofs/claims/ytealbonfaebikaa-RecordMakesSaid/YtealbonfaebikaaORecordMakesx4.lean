/- Of the law calamus/calamuslaw33.RecordMakes: each function as a plain Lean function, with a proof that the call comes to it; the row. By wip/tpl/own_print.py. Conditions: none but the row's own. -/
import Derived.Test.YtealbonfaebikaaORecordMakesx0
import Derived.Test.YtealbonfaebikaaORecordMakesx1
import Derived.Test.YtealbonfaebikaaORecordMakesx2
import Derived.Test.YtealbonfaebikaaORecordMakesx3
namespace Go.Proofs.Ytealbonfaebikaa.PRecordMakes
open Go.RowKit Go.Proofs.YtealbonfaebikaaW.PrintWords Go.Proofs.YtealbonfaebikaaW.PrintLast Go.Proofs.YtealbonfaebikaaW.PrintMore
attribute [local go_sem] max2_int min2_int max_two min_two max_three min_three max_four min_four   -- for this text's walks alone
set_option linter.unusedVariables false
set_option linter.unusedSimpArgs false

attribute [local go_sem high] eqA24
/-! ### record_Bytes: function 22 -/
def record_Bytes.f (k : Nat) (a0_0 : Int) (a0_1 : Int) (a0_2 : Int) (a0_3 : ByteArray) : Option (ByteArray) := (record_Right.f a0_0 a0_1 a0_2 a0_3).bind fun t141 => (if t141 = true then ((code_Num.f k a0_1).bind fun t145 => ((code_Num.f k a0_2).bind fun t146 => ((record_glue.f (([strOfNums (([(a0_0) % 256] : List Int)), t145, t146, a0_3] : List ByteArray))).bind fun t150 => ((code_Text.f k t150).bind fun t151 => ((crc_Seal.f k t151).bind fun t152 => (some t152)))))) else (some (⟨#[]⟩ : ByteArray)))
theorem record_Bytes.mono : ∀ a0 a1 a2 a3 k, LeO (record_Bytes.f k a0 a1 a2 a3) (record_Bytes.f (k + 1) a0 a1 a2 a3) := by
 intro a0 a1 a2 a3 k
 unfold record_Bytes.f
 repeat' first
   | (with_reducible exact code_Num.mono _ _)
   | (with_reducible exact code_Text.mono _ _)
   | (with_reducible exact crc_Seal.mono _ _)
   | (with_reducible exact LeO.refl _)
   | (with_reducible exact LeO.none _)
   | (with_reducible refine LeO.ite ?_ ?_)
   | (with_reducible refine LeO.bind ?_ (fun _ => ?_))
   | exact code_Num.mono _ _
   | exact code_Text.mono _ _
   | exact crc_Seal.mono _ _
   | exact LeO.none _
   | refine LeO.ite ?_ ?_
   | refine LeO.bind ?_ (fun _ => ?_)
def record_Bytes.T3 : Bool × List (List Nat × List Nat) := (true, [([], []), ([0], [0]), ([1], [1]), ([2], [2]), ([3], [3]), ([], []), ([5], [5]), ([6], [6]), ([], []), ([8], [8]), ([9, 7], [9]), ([], []), ([11], [11]), ([4, 7, 10, 12], [4, 7, 10, 12]), ([13, 10], [13]), ([14, 14, 0, 1, 2, 3, 4, 5, 6, 7, 8, 9, 10, 11, 12, 13, 14], [14])])
def record_Bytes.B3 : List Nat := [0, 1, 3, 7, 15, 0, 32, 96, 0, 256, 992, 0, 2048, 8191, 16383, 32767]
theorem record_Bytes.tab3 : rtab .any (opsOf Try.f22 3) = record_Bytes.T3 := by kernel_rfl
theorem record_Bytes.bits3 : waitsOk record_Bytes.T3.2 record_Bytes.B3 = true := by kernel_rfl
set_option maxHeartbeats 8000000 in
set_option maxRecDepth 100000 in
theorem record_Bytes.calls (k : Nat) (a0_0 : Int) (a0_1 : Int) (a0_2 : Int) (a0_3 : ByteArray) (r : ByteArray) (w : World) (h : record_Bytes.f k a0_0 a0_1 a0_2 a0_3 = some r) :
  Calls Try.prog 22 #[.agg #[.int .i64 a0_0, .int .i64 a0_1, .int .i64 a0_2, .string a0_3]] w fun e w' => e = .returned (.string r) ∧ Below w.heap.size w w' := by
 have hu24 := Try.underlying24
 have HB := Aside0.mk (Below.refl w.heap.size w)
 have H : ((record_Right.f a0_0 a0_1 a0_2 a0_3).bind fun t141 => (if t141 = true then ((code_Num.f k a0_1).bind fun t145 => ((code_Num.f k a0_2).bind fun t146 => ((record_glue.f (([strOfNums (([(a0_0) % 256] : List Int)), t145, t146, a0_3] : List ByteArray))).bind fun t150 => ((code_Text.f k t150).bind fun t151 => ((crc_Seal.f k t151).bind fun t152 => (some t152)))))) else (some (⟨#[]⟩ : ByteArray)))) = some r := h
 clear h
 replace H := Option.bind_eq_some_iff.mp H
 obtain ⟨t141, A20, H⟩ := H
 replace H : (if t141 = true then ((code_Num.f k a0_1).bind fun t145 => ((code_Num.f k a0_2).bind fun t146 => ((record_glue.f (([strOfNums (([(a0_0) % 256] : List Int)), t145, t146, a0_3] : List ByteArray))).bind fun t150 => ((code_Text.f k t150).bind fun t151 => ((crc_Seal.f k t151).bind fun t152 => (some t152)))))) else (some (⟨#[]⟩ : ByteArray))) = some r := H
 have A2 := Aside0.mk A20
 clear A20
 by_cases c3 : t141 = true
 ·subst c3
  have H1 : ((code_Num.f k a0_1).bind fun t145 => ((code_Num.f k a0_2).bind fun t146 => ((record_glue.f (([strOfNums (([(a0_0) % 256] : List Int)), t145, t146, a0_3] : List ByteArray))).bind fun t150 => ((code_Text.f k t150).bind fun t151 => ((crc_Seal.f k t151).bind fun t152 => (some t152)))))) = some r := by rw [if_pos rfl] at H; exact H
  clear H
  have H := H1
  clear H1
  obtain ⟨y142, hy142⟩ : ∃ y_ : List Int, y_ = (([(a0_0) % 256] : List Int)) := ⟨_, rfl⟩
  replace H : ((code_Num.f k a0_1).bind fun t145 => ((code_Num.f k a0_2).bind fun t146 => ((record_glue.f (([strOfNums y142, t145, t146, a0_3] : List ByteArray))).bind fun t150 => ((code_Text.f k t150).bind fun t151 => ((crc_Seal.f k t151).bind fun t152 => (some t152)))))) = some r := th_ H hy142
  have Ny142 := Aside0.mk hy142
  clear hy142
  replace H := Option.bind_eq_some_iff.mp H
  obtain ⟨t145, A40, H⟩ := H
  replace H : ((code_Num.f k a0_2).bind fun t146 => ((record_glue.f (([strOfNums y142, t145, t146, a0_3] : List ByteArray))).bind fun t150 => ((code_Text.f k t150).bind fun t151 => ((crc_Seal.f k t151).bind fun t152 => (some t152))))) = some r := H
  have A4 := Aside0.mk A40
  clear A40
  replace H := Option.bind_eq_some_iff.mp H
  obtain ⟨t146, A50, H⟩ := H
  replace H : ((record_glue.f (([strOfNums y142, t145, t146, a0_3] : List ByteArray))).bind fun t150 => ((code_Text.f k t150).bind fun t151 => ((crc_Seal.f k t151).bind fun t152 => (some t152)))) = some r := H
  have A5 := Aside0.mk A50
  clear A50
  obtain ⟨y147, hy147⟩ : ∃ y_ : List ByteArray, y_ = (([strOfNums y142, t145, t146, a0_3] : List ByteArray)) := ⟨_, rfl⟩
  replace H : ((record_glue.f y147).bind fun t150 => ((code_Text.f k t150).bind fun t151 => ((crc_Seal.f k t151).bind fun t152 => (some t152)))) = some r := th_ H hy147
  have Ny147 := Aside0.mk hy147
  clear hy147
  replace H := Option.bind_eq_some_iff.mp H
  obtain ⟨t150, A60, H⟩ := H
  replace H : ((code_Text.f k t150).bind fun t151 => ((crc_Seal.f k t151).bind fun t152 => (some t152))) = some r := H
  have A6 := Aside0.mk A60
  clear A60
  replace H := Option.bind_eq_some_iff.mp H
  obtain ⟨t151, A70, H⟩ := H
  replace H : ((crc_Seal.f k t151).bind fun t152 => (some t152)) = some r := H
  have A7 := Aside0.mk A70
  clear A70
  replace H := Option.bind_eq_some_iff.mp H
  obtain ⟨t152, A80, H⟩ := H
  replace H : (some t152) = some r := H
  have A8 := Aside0.mk A80
  clear A80
  obtain rfl := Option.some.inj H
  go_enter Try.func22, Try.ntmps22
  try go_wp2_with (first | ((with_reducible refine gate_dst (N := 1) rfl ?_); refine be_ (N := 1) (cs := #[.int .i64 a0_0, .int .i64 a0_1, .int .i64 a0_2, .string a0_3]) (t := 24) (h := ?_); intro gb140 hg w9 hbox hb; have BK140 := Aside0.mk (hbox); have GW140 := gw_ HB hg; have GE140 := gw_ HB hg; replace HB := bs_ HB hb; clear hb hbox hg; obtain ⟨hcz10_0, hcz10_1, hcz10_2, hcz10_3, hfz10_0, hfz10_1, hfz10_2, hfz10_3⟩ := bc4_ BK140) | ((with_reducible refine gate_callee (f := 20) rfl ?_); refine ge_ (some 5) rfl rfl Try.func20 (by kernel_rfl) rfl #[.agg #[.int .i64 a0_0, .int .i64 a0_1, .int .i64 a0_2, .string a0_3]] rfl (h := ?_); (with_reducible refine (record_Right.calls a0_0 a0_1 a0_2 a0_3 true _ A2.out).mono ?_); rintro e w11 ⟨rfl, hb⟩; refine ⟨_, rfl, ?_⟩; replace BK140 := bb_ BK140 hb; replace HB := bs_ HB hb; (try clear hb); (try clear hb2); (try clear hk); (try clear hi)))
  have n0_ := Aside0.mk (blk_drew BK140.out)
  have n1_ := Aside0.mk (below_drew1 HB.out)
  clear BK140
  clear HB
  have BK140 := n0_
  have HB := n1_
  clear n0_ n1_
  refine start_ (n := 16) (S := fun w' => w'.cell? ⟨gb140, 0, none⟩ = some (.int .i64 a0_0) ∧ w'.cell? ⟨gb140, 1, none⟩ = some (.int .i64 a0_1) ∧ w'.cell? ⟨gb140, 2, none⟩ = some (.int .i64 a0_2) ∧ w'.cell? ⟨gb140, 3, none⟩ = some (.string a0_3)) (ds := []) #[false, false, false, false, false, false, false, false, false, false, false, false, false, false, false, false] (by kernel_rfl) rfl rfl ⟨(blk_cell BK140.out 0).trans rfl, (blk_cell BK140.out 1).trans rfl, (blk_cell BK140.out 2).trans rfl, (blk_cell BK140.out 3).trans rfl⟩ (fun hHeld => ?_); refine with_tabW record_Bytes.tab3 record_Bytes.bits3 (fun HT_ HW_ => ?_)
  generalize w11.drew = w12 at BK140 HB hHeld ⊢
  refine pp_ (i := 0) (N := some 7) #[true, false, false, false, false, false, false, false, false, false, false, false, false, false, false, false] rfl rfl (any_of HT_.out (by kernel_rfl)) (h := ?_)
  refine pp_ (i := 5) (N := some 12) #[true, false, false, false, false, true, false, false, false, false, false, false, false, false, false, false] rfl rfl (any_of HT_.out (by kernel_rfl)) (h := ?_)
  refine pp_ (i := 8) (N := some 15) #[true, false, false, false, false, true, false, false, true, false, false, false, false, false, false, false] rfl rfl (any_of HT_.out (by kernel_rfl)) (h := ?_)
  refine pp_ (i := 11) (N := some 18) #[true, false, false, false, false, true, false, false, true, false, false, true, false, false, false, false] rfl rfl (any_of HT_.out (by kernel_rfl)) (h := ?_)
  refine take_ (i := 1) (N := some 8) (v := ?_) (a' := ?_) #[true, true, false, false, false, true, false, false, true, false, false, true, false, false, false, false] rfl rfl (take_ofW HT_.out HW_.out (by kernel_rfl)) (fun _ _ _ h => h) (Or.inl ⟨by rfl, ?_⟩) hHeld ?_ ?_
  rotate_left
  ·rintro w' ⟨s0, s1, s2, s3⟩
   go_simp
   with_reducible rfl
  rotate_left
  ·simp only [Act.put, List.setIfInBounds_toArray, List.set_cons_zero, List.set_cons_succ, i64_w, i32_w]
   rfl
  refine pp_ (i := 2) (N := some 9) #[true, true, true, false, false, true, false, false, true, false, false, true, false, false, false, false] rfl rfl (any_of HT_.out (by kernel_rfl)) (h := ?_)
  refine take_ (i := 6) (N := some 13) (v := ?_) (a' := ?_) #[true, true, true, false, false, true, true, false, true, false, false, true, false, false, false, false] rfl rfl (take_ofW HT_.out HW_.out (by kernel_rfl)) (fun _ _ _ h => h) (Or.inl ⟨by rfl, ?_⟩) hHeld ?_ ?_
  rotate_left
  ·rintro w' ⟨s0, s1, s2, s3⟩
   go_simp
   with_reducible rfl
  rotate_left
  ·simp only [Act.put, List.setIfInBounds_toArray, List.set_cons_zero, List.set_cons_succ, i64_w, i32_w]
   rfl
  refine take_ (i := 9) (N := some 16) (v := ?_) (a' := ?_) #[true, true, true, false, false, true, true, false, true, true, false, true, false, false, false, false] rfl rfl (take_ofW HT_.out HW_.out (by kernel_rfl)) (fun _ _ _ h => h) (Or.inl ⟨by rfl, ?_⟩) hHeld ?_ ?_
  rotate_left
  ·rintro w' ⟨s0, s1, s2, s3⟩
   go_simp
   with_reducible rfl
  rotate_left
  ·simp only [Act.put, List.setIfInBounds_toArray, List.set_cons_zero, List.set_cons_succ, i64_w, i32_w]
   rfl
  refine take_ (i := 12) (N := some 19) (v := ?_) (a' := ?_) #[true, true, true, false, false, true, true, false, true, true, false, true, true, false, false, false] rfl rfl (take_ofW HT_.out HW_.out (by kernel_rfl)) (fun _ _ _ h => h) (Or.inl ⟨by rfl, ?_⟩) hHeld ?_ ?_
  rotate_left
  ·rintro w' ⟨s0, s1, s2, s3⟩
   go_simp
   with_reducible rfl
  rotate_left
  ·simp only [Act.put, List.setIfInBounds_toArray, List.set_cons_zero, List.set_cons_succ, i64_w, i32_w]
   rfl
  refine join_ (σ := Value) 3 #[true, true, true, true, true, true, true, true, true, true, true, true, true, false, false, false] (fun s_ => [(10, s_), (11, .string (strOfNums y142)), (14, .string t145), (17, .string t146)]) (fun s_ w' => (w'.cell? ⟨gb140, 0, none⟩ = some (.int .i64 a0_0) ∧ w'.cell? ⟨gb140, 1, none⟩ = some (.int .i64 a0_1) ∧ w'.cell? ⟨gb140, 2, none⟩ = some (.int .i64 a0_2) ∧ w'.cell? ⟨gb140, 3, none⟩ = some (.string a0_3)) ∧ (Kd.R (Kd.int .u8) 5 w' w.heap.size (fun _ => True) s_ y142) ∧ (w'.heap[gb140]? = some (.cells #[.int .i64 a0_0, .int .i64 a0_1, .int .i64 a0_2, .string a0_3] 24 (0, 0))) ∧ (Below w.heap.size w w')) ?_ ?_
  rotate_left
  ·intro hJ3_4_7_10
   refine join_ (σ := Value) 4 #[true, true, true, true, true, true, true, true, true, true, false, true, true, false, false, false] (fun s_ => [(10, s_), (11, .string (strOfNums y142)), (14, .string t145)]) (fun s_ w' => (w'.cell? ⟨gb140, 0, none⟩ = some (.int .i64 a0_0) ∧ w'.cell? ⟨gb140, 1, none⟩ = some (.int .i64 a0_1) ∧ w'.cell? ⟨gb140, 2, none⟩ = some (.int .i64 a0_2) ∧ w'.cell? ⟨gb140, 3, none⟩ = some (.string a0_3)) ∧ (Kd.R (Kd.int .u8) 5 w' w.heap.size (fun _ => True) s_ y142) ∧ (w'.heap[gb140]? = some (.cells #[.int .i64 a0_0, .int .i64 a0_1, .int .i64 a0_2, .string a0_3] 24 (0, 0))) ∧ (Below w.heap.size w w')) ?_ ?_
   rotate_left
   ·intro hJ3_4_7
    refine join_ (σ := Value) 4 #[true, true, true, true, false, true, true, true, true, true, true, true, true, false, false, false] (fun s_ => [(10, s_), (14, .string t145), (17, .string t146)]) (fun s_ w' => (w'.cell? ⟨gb140, 0, none⟩ = some (.int .i64 a0_0) ∧ w'.cell? ⟨gb140, 1, none⟩ = some (.int .i64 a0_1) ∧ w'.cell? ⟨gb140, 2, none⟩ = some (.int .i64 a0_2) ∧ w'.cell? ⟨gb140, 3, none⟩ = some (.string a0_3)) ∧ (Kd.R (Kd.int .u8) 5 w' w.heap.size (fun _ => True) s_ y142) ∧ (w'.heap[gb140]? = some (.cells #[.int .i64 a0_0, .int .i64 a0_1, .int .i64 a0_2, .string a0_3] 24 (0, 0))) ∧ (Below w.heap.size w w')) ?_ ?_
    rotate_left
    ·intro hJ3_7_10
     refine join_ (σ := Value) 5 #[true, true, true, true, true, true, true, false, true, true, false, true, true, false, false, false] (fun s_ => [(10, s_), (11, .string (strOfNums y142))]) (fun s_ w' => (w'.cell? ⟨gb140, 0, none⟩ = some (.int .i64 a0_0) ∧ w'.cell? ⟨gb140, 1, none⟩ = some (.int .i64 a0_1) ∧ w'.cell? ⟨gb140, 2, none⟩ = some (.int .i64 a0_2) ∧ w'.cell? ⟨gb140, 3, none⟩ = some (.string a0_3)) ∧ (Kd.R (Kd.int .u8) 5 w' w.heap.size (fun _ => True) s_ y142) ∧ (w'.heap[gb140]? = some (.cells #[.int .i64 a0_0, .int .i64 a0_1, .int .i64 a0_2, .string a0_3] 24 (0, 0))) ∧ (Below w.heap.size w w')) ?_ ?_
     rotate_left
     ·intro hJ3_4
      refine join_ (σ := Value) 5 #[true, true, true, true, false, true, true, true, true, true, false, true, true, false, false, false] (fun s_ => [(10, s_), (14, .string t145)]) (fun s_ w' => (w'.cell? ⟨gb140, 0, none⟩ = some (.int .i64 a0_0) ∧ w'.cell? ⟨gb140, 1, none⟩ = some (.int .i64 a0_1) ∧ w'.cell? ⟨gb140, 2, none⟩ = some (.int .i64 a0_2) ∧ w'.cell? ⟨gb140, 3, none⟩ = some (.string a0_3)) ∧ (Kd.R (Kd.int .u8) 5 w' w.heap.size (fun _ => True) s_ y142) ∧ (w'.heap[gb140]? = some (.cells #[.int .i64 a0_0, .int .i64 a0_1, .int .i64 a0_2, .string a0_3] 24 (0, 0))) ∧ (Below w.heap.size w w')) ?_ ?_
      rotate_left
      ·intro hJ3_7
       refine join_ (σ := Unit) 5 #[true, true, true, false, false, true, true, true, true, true, true, true, true, false, false, false] (fun s_ => [(14, .string t145), (17, .string t146)]) (fun s_ w' => (w'.cell? ⟨gb140, 0, none⟩ = some (.int .i64 a0_0) ∧ w'.cell? ⟨gb140, 1, none⟩ = some (.int .i64 a0_1) ∧ w'.cell? ⟨gb140, 2, none⟩ = some (.int .i64 a0_2) ∧ w'.cell? ⟨gb140, 3, none⟩ = some (.string a0_3)) ∧ (w'.heap[gb140]? = some (.cells #[.int .i64 a0_0, .int .i64 a0_1, .int .i64 a0_2, .string a0_3] 24 (0, 0))) ∧ (Below w.heap.size w w')) ?_ ?_
       rotate_left
       ·intro hJ7_10
        refine join_ (σ := Value) 6 #[true, true, true, true, false, true, true, false, true, true, false, true, true, false, false, false] (fun s_ => [(10, s_)]) (fun s_ w' => (w'.cell? ⟨gb140, 0, none⟩ = some (.int .i64 a0_0) ∧ w'.cell? ⟨gb140, 1, none⟩ = some (.int .i64 a0_1) ∧ w'.cell? ⟨gb140, 2, none⟩ = some (.int .i64 a0_2) ∧ w'.cell? ⟨gb140, 3, none⟩ = some (.string a0_3)) ∧ (Kd.R (Kd.int .u8) 5 w' w.heap.size (fun _ => True) s_ y142) ∧ (w'.heap[gb140]? = some (.cells #[.int .i64 a0_0, .int .i64 a0_1, .int .i64 a0_2, .string a0_3] 24 (0, 0))) ∧ (Below w.heap.size w w')) ?_ ?_
        rotate_left
        ·intro hJ3
         refine join_ (σ := Unit) 6 #[true, true, true, false, false, true, true, true, true, true, false, true, true, false, false, false] (fun s_ => [(14, .string t145)]) (fun s_ w' => (w'.cell? ⟨gb140, 0, none⟩ = some (.int .i64 a0_0) ∧ w'.cell? ⟨gb140, 1, none⟩ = some (.int .i64 a0_1) ∧ w'.cell? ⟨gb140, 2, none⟩ = some (.int .i64 a0_2) ∧ w'.cell? ⟨gb140, 3, none⟩ = some (.string a0_3)) ∧ (w'.heap[gb140]? = some (.cells #[.int .i64 a0_0, .int .i64 a0_1, .int .i64 a0_2, .string a0_3] 24 (0, 0))) ∧ (Below w.heap.size w w')) ?_ ?_
         rotate_left
         ·intro hJ7
          refine two_ (i := 3) (j := 7) (Ni := some 10) (Nj := some 14) #[true, true, true, true, false, true, true, false, true, true, false, true, true, false, false, false] #[true, true, true, false, false, true, true, true, true, true, false, true, true, false, false, false] rfl rfl rfl rfl (two_of HT_.out (by kernel_rfl)) (by decide) (by decide) (fun K hK => ?_) (fun K hK => ?_)
          ·skip
           refine Kd.R_lit_step (Kd.int .u8) _ 5 ?hg (N := 10) ?hd (xs := ([(a0_0) % 256] : List Int)) (inner := [.int .u8 ((a0_0) % 256)]) (ok := fun _ => True) (okp := fun _ => True) ?hr ?hp (fun _ hk => hk) trivial (Below.refl _ _) (Nat.le_refl _) (by simp) ?_; (case hd => rfl); (case hg => rfl); (case hr => first | (go_simp; done) | (go_simp; rfl)); (case hp => exact (Reps.one (show Kd.M (Kd.int .u8) _ _ _ ((a0_0) % 256) [.int .u8 ((a0_0) % 256)] from rfl) (Reps.none _ _)))
           intro v143 w13 ho14 hb hg_ hnew_
           clear hg_ hnew_
           (first | rw [← Ny142.out] at ho14 | (simp only [Int.reduceToNat] at ho14; rw [← Ny142.out] at ho14))
           have n0_ := Aside0.mk (Kd.R_lower ho14 (below_size (hb_ HB)))
           have n1_ := bb_ BK140 hb
           have n2_ := bs_ HB hb
           clear BK140
           clear HB
           have HO144 := n0_
           have BK140 := n1_
           have HB := n2_
           clear n0_ n1_ n2_
           clear hb ho14
           refine hK.out _ _ ⟨(blk_cell BK140.out 0).trans rfl, (blk_cell BK140.out 1).trans rfl, (blk_cell BK140.out 2).trans rfl, (blk_cell BK140.out 3).trans rfl⟩ (fun hHeld => ?_)
           clear hK K
           refine norm_ (a' := ?_) ?_ ?_
           rotate_left
           ·show Act.put _ (some 10) _ = _
            simp only [Act.put, List.setIfInBounds_toArray, List.set_cons_zero, List.set_cons_succ, i64_w, i32_w]
            rfl
           exact norm_ (by first | (simp only [putAll, Act.put, List.setIfInBounds_toArray, List.set_cons_zero, List.set_cons_succ]; done) | (simp only [putAll, Act.put, List.setIfInBounds_toArray, List.set_cons_zero, List.set_cons_succ]; rfl)) (hJ3 (v143) _ ⟨hHeld, (rw_ HO144.out), (bw_ BK140.out), (hb_ HB)⟩)
          ·skip
           refine goes_ Try.func52 (by kernel_rfl) rfl #[.int .i64 a0_1] (by rfl) rfl rfl (by (try simp only [List.map_toArray, List.map_cons, List.map_nil]); first | done | rfl | (simp only [List.length_drop, List.length_take]; rfl)) ?_
           with_reducible refine (code_Num.calls k a0_1 t145 _ A4.out).mono ?_
           rintro e w13 ⟨rfl, hb⟩
           refine ⟨_, rfl, ?_⟩
           have n0_ := bb_ BK140 hb
           have n1_ := bs_ HB hb
           clear BK140
           clear HB
           have BK140 := n0_
           have HB := n1_
           clear n0_ n1_
           (try clear hb)
           (try clear hb2)
           (try clear hk)
           (try clear hi)
           refine hK.out _ _ ⟨(blk_cell BK140.out 0).trans rfl, (blk_cell BK140.out 1).trans rfl, (blk_cell BK140.out 2).trans rfl, (blk_cell BK140.out 3).trans rfl⟩ (fun hHeld => ?_)
           clear hK K
           refine norm_ (a' := ?_) ?_ ?_
           rotate_left
           ·show Act.put _ (some 14) _ = _
            simp only [Act.put, List.setIfInBounds_toArray, List.set_cons_zero, List.set_cons_succ, i64_w, i32_w]
            rfl
           exact norm_ (by first | (simp only [putAll, Act.put, List.setIfInBounds_toArray, List.set_cons_zero, List.set_cons_succ]; done) | (simp only [putAll, Act.put, List.setIfInBounds_toArray, List.set_cons_zero, List.set_cons_succ]; rfl)) (hJ7 () _ ⟨hHeld, (bw_ BK140.out), (hb_ HB)⟩)
         ·skip
          rintro _ w14 ⟨hS_, h0_, h1_⟩
          have n0_ : Aside0 (w14.heap[gb140]? = some (.cells #[.int .i64 a0_0, .int .i64 a0_1, .int .i64 a0_2, .string a0_3] 24 (0, 0))) := ⟨h0_⟩
          have n1_ : Aside0 (Below w.heap.size w w14) := ⟨h1_⟩
          clear BK140
          clear HB
          clear h0_ h1_
          have BK140 := n0_
          have HB := n1_
          clear n0_ n1_
          have hHeld : w14.cell? ⟨gb140, 0, none⟩ = some (.int .i64 a0_0) ∧ w14.cell? ⟨gb140, 1, none⟩ = some (.int .i64 a0_1) ∧ w14.cell? ⟨gb140, 2, none⟩ = some (.int .i64 a0_2) ∧ w14.cell? ⟨gb140, 3, none⟩ = some (.string a0_3) := hS_
          refine norm_ (a' := ?_) ?_ ?_
          rotate_left
          ·simp only [putAll, Act.put, List.setIfInBounds_toArray, List.set_cons_zero, List.set_cons_succ]
           rfl
          refine two_ (i := 3) (j := 10) (Ni := some 10) (Nj := some 17) #[true, true, true, true, false, true, true, true, true, true, false, true, true, false, false, false] #[true, true, true, false, false, true, true, true, true, true, true, true, true, false, false, false] rfl rfl rfl rfl (two_of HT_.out (by kernel_rfl)) (by decide) (by decide) (fun K hK => ?_) (fun K hK => ?_)
          ·skip
           refine Kd.R_lit_step (Kd.int .u8) _ 5 ?hg (N := 10) ?hd (xs := ([(a0_0) % 256] : List Int)) (inner := [.int .u8 ((a0_0) % 256)]) (ok := fun _ => True) (okp := fun _ => True) ?hr ?hp (fun _ hk => hk) trivial (Below.refl _ _) (Nat.le_refl _) (by simp) ?_; (case hd => rfl); (case hg => rfl); (case hr => first | (go_simp; done) | (go_simp; rfl)); (case hp => exact (Reps.one (show Kd.M (Kd.int .u8) _ _ _ ((a0_0) % 256) [.int .u8 ((a0_0) % 256)] from rfl) (Reps.none _ _)))
           intro v143 w15 ho16 hb hg_ hnew_
           clear hg_ hnew_
           (first | rw [← Ny142.out] at ho16 | (simp only [Int.reduceToNat] at ho16; rw [← Ny142.out] at ho16))
           have n0_ := Aside0.mk (Kd.R_lower ho16 (below_size (hb_ HB)))
           have n1_ := bb_ BK140 hb
           have n2_ := bs_ HB hb
           clear BK140
           clear HB
           have HO144 := n0_
           have BK140 := n1_
           have HB := n2_
           clear n0_ n1_ n2_
           clear hb ho16
           refine hK.out _ _ ⟨(blk_cell BK140.out 0).trans rfl, (blk_cell BK140.out 1).trans rfl, (blk_cell BK140.out 2).trans rfl, (blk_cell BK140.out 3).trans rfl⟩ (fun hHeld => ?_)
           clear hK K
           refine norm_ (a' := ?_) ?_ ?_
           rotate_left
           ·show Act.put _ (some 10) _ = _
            simp only [Act.put, List.setIfInBounds_toArray, List.set_cons_zero, List.set_cons_succ, i64_w, i32_w]
            rfl
           exact norm_ (by first | (simp only [putAll, Act.put, List.setIfInBounds_toArray, List.set_cons_zero, List.set_cons_succ]; done) | (simp only [putAll, Act.put, List.setIfInBounds_toArray, List.set_cons_zero, List.set_cons_succ]; rfl)) (hJ3_7 (v143) _ ⟨hHeld, (rw_ HO144.out), (bw_ BK140.out), (hb_ HB)⟩)
          ·skip
           refine goes_ Try.func52 (by kernel_rfl) rfl #[.int .i64 a0_2] (by rfl) rfl rfl (by (try simp only [List.map_toArray, List.map_cons, List.map_nil]); first | done | rfl | (simp only [List.length_drop, List.length_take]; rfl)) ?_
           with_reducible refine (code_Num.calls k a0_2 t146 _ A5.out).mono ?_
           rintro e w15 ⟨rfl, hb⟩
           refine ⟨_, rfl, ?_⟩
           have n0_ := bb_ BK140 hb
           have n1_ := bs_ HB hb
           clear BK140
           clear HB
           have BK140 := n0_
           have HB := n1_
           clear n0_ n1_
           (try clear hb)
           (try clear hb2)
           (try clear hk)
           (try clear hi)
           refine hK.out _ _ ⟨(blk_cell BK140.out 0).trans rfl, (blk_cell BK140.out 1).trans rfl, (blk_cell BK140.out 2).trans rfl, (blk_cell BK140.out 3).trans rfl⟩ (fun hHeld => ?_)
           clear hK K
           refine norm_ (a' := ?_) ?_ ?_
           rotate_left
           ·show Act.put _ (some 17) _ = _
            simp only [Act.put, List.setIfInBounds_toArray, List.set_cons_zero, List.set_cons_succ, i64_w, i32_w]
            rfl
           exact norm_ (by first | (simp only [putAll, Act.put, List.setIfInBounds_toArray, List.set_cons_zero, List.set_cons_succ]; done) | (simp only [putAll, Act.put, List.setIfInBounds_toArray, List.set_cons_zero, List.set_cons_succ]; rfl)) (hJ7_10 () _ ⟨hHeld, (bw_ BK140.out), (hb_ HB)⟩)
        ·skip
         rintro v143 w15 ⟨hS_, h0_, h1_, h2_⟩
         have n0_ : Aside0 (Kd.R (Kd.int .u8) 5 w15 w.heap.size (fun _ => True) v143 y142) := ⟨h0_⟩
         have n1_ : Aside0 (w15.heap[gb140]? = some (.cells #[.int .i64 a0_0, .int .i64 a0_1, .int .i64 a0_2, .string a0_3] 24 (0, 0))) := ⟨h1_⟩
         have n2_ : Aside0 (Below w.heap.size w w15) := ⟨h2_⟩
         clear BK140
         clear HB
         clear h0_ h1_ h2_
         have HO144 := n0_
         have BK140 := n1_
         have HB := n2_
         clear n0_ n1_ n2_
         have hHeld : w15.cell? ⟨gb140, 0, none⟩ = some (.int .i64 a0_0) ∧ w15.cell? ⟨gb140, 1, none⟩ = some (.int .i64 a0_1) ∧ w15.cell? ⟨gb140, 2, none⟩ = some (.int .i64 a0_2) ∧ w15.cell? ⟨gb140, 3, none⟩ = some (.string a0_3) := hS_
         refine norm_ (a' := ?_) ?_ ?_
         rotate_left
         ·simp only [putAll, Act.put, List.setIfInBounds_toArray, List.set_cons_zero, List.set_cons_succ]
          rfl
         refine two_ (i := 4) (j := 7) (Ni := some 11) (Nj := some 14) #[true, true, true, true, true, true, true, false, true, true, false, true, true, false, false, false] #[true, true, true, true, false, true, true, true, true, true, false, true, true, false, false, false] rfl rfl rfl rfl (two_of HT_.out (by kernel_rfl)) (by decide) (by decide) (fun K hK => ?_) (fun K hK => ?_)
         ·skip
          have hcv16 := own_string (P := Try.prog) Try.underlying84 Try.underlying5 Try.underlying9 (Kd.own_of_R HO144.out)
          refine value_ (w1 := ?_) (v := ?_) (by rfl) rfl ?_ ?_
          rotate_left 2
          ·go_simp
           constructor
           ·rfl
           ·rfl
          clear hcv16
          refine hK.out _ _ ⟨(blk_cell BK140.out 0).trans rfl, (blk_cell BK140.out 1).trans rfl, (blk_cell BK140.out 2).trans rfl, (blk_cell BK140.out 3).trans rfl⟩ (fun hHeld => ?_)
          clear hK K
          refine norm_ (a' := ?_) ?_ ?_
          rotate_left
          ·show Act.put _ (some 11) _ = _
           simp only [Act.put, List.setIfInBounds_toArray, List.set_cons_zero, List.set_cons_succ, i64_w, i32_w]
           rfl
          exact norm_ (by first | (simp only [putAll, Act.put, List.setIfInBounds_toArray, List.set_cons_zero, List.set_cons_succ]; done) | (simp only [putAll, Act.put, List.setIfInBounds_toArray, List.set_cons_zero, List.set_cons_succ]; rfl)) (hJ3_4 (v143) _ ⟨hHeld, (rw_ HO144.out), (bw_ BK140.out), (hb_ HB)⟩)
         ·skip
          refine goes_ Try.func52 (by kernel_rfl) rfl #[.int .i64 a0_1] (by rfl) rfl rfl (by (try simp only [List.map_toArray, List.map_cons, List.map_nil]); first | done | rfl | (simp only [List.length_drop, List.length_take]; rfl)) ?_
          with_reducible refine (code_Num.calls k a0_1 t145 _ A4.out).mono ?_
          rintro e w16 ⟨rfl, hb⟩
          refine ⟨_, rfl, ?_⟩
          have n0_ := Aside0.mk (Kd.R_below (rw_ HO144.out) hb)
          have n1_ := bb_ BK140 hb
          have n2_ := bs_ HB hb
          clear HO144
          clear BK140
          clear HB
          have HO144 := n0_
          have BK140 := n1_
          have HB := n2_
          clear n0_ n1_ n2_
          (try clear hb)
          (try clear hb2)
          (try clear hk)
          (try clear hi)
          refine hK.out _ _ ⟨(blk_cell BK140.out 0).trans rfl, (blk_cell BK140.out 1).trans rfl, (blk_cell BK140.out 2).trans rfl, (blk_cell BK140.out 3).trans rfl⟩ (fun hHeld => ?_)
          clear hK K
          refine norm_ (a' := ?_) ?_ ?_
          rotate_left
          ·show Act.put _ (some 14) _ = _
           simp only [Act.put, List.setIfInBounds_toArray, List.set_cons_zero, List.set_cons_succ, i64_w, i32_w]
           rfl
          exact norm_ (by first | (simp only [putAll, Act.put, List.setIfInBounds_toArray, List.set_cons_zero, List.set_cons_succ]; done) | (simp only [putAll, Act.put, List.setIfInBounds_toArray, List.set_cons_zero, List.set_cons_succ]; rfl)) (hJ3_7 (v143) _ ⟨hHeld, (rw_ HO144.out), (bw_ BK140.out), (hb_ HB)⟩)
       ·skip
        rintro _ w15 ⟨hS_, h0_, h1_⟩
        have n0_ : Aside0 (w15.heap[gb140]? = some (.cells #[.int .i64 a0_0, .int .i64 a0_1, .int .i64 a0_2, .string a0_3] 24 (0, 0))) := ⟨h0_⟩
        have n1_ : Aside0 (Below w.heap.size w w15) := ⟨h1_⟩
        clear BK140
        clear HB
        clear h0_ h1_
        have BK140 := n0_
        have HB := n1_
        clear n0_ n1_
        have hHeld : w15.cell? ⟨gb140, 0, none⟩ = some (.int .i64 a0_0) ∧ w15.cell? ⟨gb140, 1, none⟩ = some (.int .i64 a0_1) ∧ w15.cell? ⟨gb140, 2, none⟩ = some (.int .i64 a0_2) ∧ w15.cell? ⟨gb140, 3, none⟩ = some (.string a0_3) := hS_
        refine norm_ (a' := ?_) ?_ ?_
        rotate_left
        ·simp only [putAll, Act.put, List.setIfInBounds_toArray, List.set_cons_zero, List.set_cons_succ]
         rfl
        refine one_ (i := 3) (N := some 10) #[true, true, true, true, false, true, true, true, true, true, true, true, true, false, false, false] rfl rfl (one_of HT_.out (by kernel_rfl)) (by decide) (fun K hK => ?_)
        refine Kd.R_lit_step (Kd.int .u8) _ 5 ?hg (N := 10) ?hd (xs := ([(a0_0) % 256] : List Int)) (inner := [.int .u8 ((a0_0) % 256)]) (ok := fun _ => True) (okp := fun _ => True) ?hr ?hp (fun _ hk => hk) trivial (Below.refl _ _) (Nat.le_refl _) (by simp) ?_; (case hd => rfl); (case hg => rfl); (case hr => first | (go_simp; done) | (go_simp; rfl)); (case hp => exact (Reps.one (show Kd.M (Kd.int .u8) _ _ _ ((a0_0) % 256) [.int .u8 ((a0_0) % 256)] from rfl) (Reps.none _ _)))
        intro v143 w16 ho17 hb hg_ hnew_
        clear hg_ hnew_
        (first | rw [← Ny142.out] at ho17 | (simp only [Int.reduceToNat] at ho17; rw [← Ny142.out] at ho17))
        have n0_ := Aside0.mk (Kd.R_lower ho17 (below_size (hb_ HB)))
        have n1_ := bb_ BK140 hb
        have n2_ := bs_ HB hb
        clear BK140
        clear HB
        have HO144 := n0_
        have BK140 := n1_
        have HB := n2_
        clear n0_ n1_ n2_
        clear hb ho17
        refine hK.out _ _ ⟨(blk_cell BK140.out 0).trans rfl, (blk_cell BK140.out 1).trans rfl, (blk_cell BK140.out 2).trans rfl, (blk_cell BK140.out 3).trans rfl⟩ (fun hHeld => ?_)
        clear hK K
        refine norm_ (a' := ?_) ?_ ?_
        rotate_left
        ·show Act.put _ (some 10) _ = _
         simp only [Act.put, List.setIfInBounds_toArray, List.set_cons_zero, List.set_cons_succ, i64_w, i32_w]
         rfl
        exact norm_ (by first | (simp only [putAll, Act.put, List.setIfInBounds_toArray, List.set_cons_zero, List.set_cons_succ]; done) | (simp only [putAll, Act.put, List.setIfInBounds_toArray, List.set_cons_zero, List.set_cons_succ]; rfl)) (hJ3_7_10 (v143) _ ⟨hHeld, (rw_ HO144.out), (bw_ BK140.out), (hb_ HB)⟩)
      ·skip
       rintro v143 w16 ⟨hS_, h0_, h1_, h2_⟩
       have n0_ : Aside0 (Kd.R (Kd.int .u8) 5 w16 w.heap.size (fun _ => True) v143 y142) := ⟨h0_⟩
       have n1_ : Aside0 (w16.heap[gb140]? = some (.cells #[.int .i64 a0_0, .int .i64 a0_1, .int .i64 a0_2, .string a0_3] 24 (0, 0))) := ⟨h1_⟩
       have n2_ : Aside0 (Below w.heap.size w w16) := ⟨h2_⟩
       clear BK140
       clear HB
       clear h0_ h1_ h2_
       have HO144 := n0_
       have BK140 := n1_
       have HB := n2_
       clear n0_ n1_ n2_
       have hHeld : w16.cell? ⟨gb140, 0, none⟩ = some (.int .i64 a0_0) ∧ w16.cell? ⟨gb140, 1, none⟩ = some (.int .i64 a0_1) ∧ w16.cell? ⟨gb140, 2, none⟩ = some (.int .i64 a0_2) ∧ w16.cell? ⟨gb140, 3, none⟩ = some (.string a0_3) := hS_
       refine norm_ (a' := ?_) ?_ ?_
       rotate_left
       ·simp only [putAll, Act.put, List.setIfInBounds_toArray, List.set_cons_zero, List.set_cons_succ]
        rfl
       refine two_ (i := 4) (j := 10) (Ni := some 11) (Nj := some 17) #[true, true, true, true, true, true, true, true, true, true, false, true, true, false, false, false] #[true, true, true, true, false, true, true, true, true, true, true, true, true, false, false, false] rfl rfl rfl rfl (two_of HT_.out (by kernel_rfl)) (by decide) (by decide) (fun K hK => ?_) (fun K hK => ?_)
       ·skip
        have hcv17 := own_string (P := Try.prog) Try.underlying84 Try.underlying5 Try.underlying9 (Kd.own_of_R HO144.out)
        refine value_ (w1 := ?_) (v := ?_) (by rfl) rfl ?_ ?_
        rotate_left 2
        ·go_simp
         constructor
         ·rfl
         ·rfl
        clear hcv17
        refine hK.out _ _ ⟨(blk_cell BK140.out 0).trans rfl, (blk_cell BK140.out 1).trans rfl, (blk_cell BK140.out 2).trans rfl, (blk_cell BK140.out 3).trans rfl⟩ (fun hHeld => ?_)
        clear hK K
        refine norm_ (a' := ?_) ?_ ?_
        rotate_left
        ·show Act.put _ (some 11) _ = _
         simp only [Act.put, List.setIfInBounds_toArray, List.set_cons_zero, List.set_cons_succ, i64_w, i32_w]
         rfl
        exact norm_ (by first | (simp only [putAll, Act.put, List.setIfInBounds_toArray, List.set_cons_zero, List.set_cons_succ]; done) | (simp only [putAll, Act.put, List.setIfInBounds_toArray, List.set_cons_zero, List.set_cons_succ]; rfl)) (hJ3_4_7 (v143) _ ⟨hHeld, (rw_ HO144.out), (bw_ BK140.out), (hb_ HB)⟩)
       ·skip
        refine goes_ Try.func52 (by kernel_rfl) rfl #[.int .i64 a0_2] (by rfl) rfl rfl (by (try simp only [List.map_toArray, List.map_cons, List.map_nil]); first | done | rfl | (simp only [List.length_drop, List.length_take]; rfl)) ?_
        with_reducible refine (code_Num.calls k a0_2 t146 _ A5.out).mono ?_
        rintro e w17 ⟨rfl, hb⟩
        refine ⟨_, rfl, ?_⟩
        have n0_ := Aside0.mk (Kd.R_below (rw_ HO144.out) hb)
        have n1_ := bb_ BK140 hb
        have n2_ := bs_ HB hb
        clear HO144
        clear BK140
        clear HB
        have HO144 := n0_
        have BK140 := n1_
        have HB := n2_
        clear n0_ n1_ n2_
        (try clear hb)
        (try clear hb2)
        (try clear hk)
        (try clear hi)
        refine hK.out _ _ ⟨(blk_cell BK140.out 0).trans rfl, (blk_cell BK140.out 1).trans rfl, (blk_cell BK140.out 2).trans rfl, (blk_cell BK140.out 3).trans rfl⟩ (fun hHeld => ?_)
        clear hK K
        refine norm_ (a' := ?_) ?_ ?_
        rotate_left
        ·show Act.put _ (some 17) _ = _
         simp only [Act.put, List.setIfInBounds_toArray, List.set_cons_zero, List.set_cons_succ, i64_w, i32_w]
         rfl
        exact norm_ (by first | (simp only [putAll, Act.put, List.setIfInBounds_toArray, List.set_cons_zero, List.set_cons_succ]; done) | (simp only [putAll, Act.put, List.setIfInBounds_toArray, List.set_cons_zero, List.set_cons_succ]; rfl)) (hJ3_7_10 (v143) _ ⟨hHeld, (rw_ HO144.out), (bw_ BK140.out), (hb_ HB)⟩)
     ·skip
      rintro v143 w16 ⟨hS_, h0_, h1_, h2_⟩
      have n0_ : Aside0 (Kd.R (Kd.int .u8) 5 w16 w.heap.size (fun _ => True) v143 y142) := ⟨h0_⟩
      have n1_ : Aside0 (w16.heap[gb140]? = some (.cells #[.int .i64 a0_0, .int .i64 a0_1, .int .i64 a0_2, .string a0_3] 24 (0, 0))) := ⟨h1_⟩
      have n2_ : Aside0 (Below w.heap.size w w16) := ⟨h2_⟩
      clear BK140
      clear HB
      clear h0_ h1_ h2_
      have HO144 := n0_
      have BK140 := n1_
      have HB := n2_
      clear n0_ n1_ n2_
      have hHeld : w16.cell? ⟨gb140, 0, none⟩ = some (.int .i64 a0_0) ∧ w16.cell? ⟨gb140, 1, none⟩ = some (.int .i64 a0_1) ∧ w16.cell? ⟨gb140, 2, none⟩ = some (.int .i64 a0_2) ∧ w16.cell? ⟨gb140, 3, none⟩ = some (.string a0_3) := hS_
      refine norm_ (a' := ?_) ?_ ?_
      rotate_left
      ·simp only [putAll, Act.put, List.setIfInBounds_toArray, List.set_cons_zero, List.set_cons_succ]
       rfl
      refine one_ (i := 7) (N := some 14) #[true, true, true, true, true, true, true, true, true, true, false, true, true, false, false, false] rfl rfl (one_of HT_.out (by kernel_rfl)) (by decide) (fun K hK => ?_)
      refine goes_ Try.func52 (by kernel_rfl) rfl #[.int .i64 a0_1] (by rfl) rfl rfl (by (try simp only [List.map_toArray, List.map_cons, List.map_nil]); first | done | rfl | (simp only [List.length_drop, List.length_take]; rfl)) ?_
      with_reducible refine (code_Num.calls k a0_1 t145 _ A4.out).mono ?_
      rintro e w17 ⟨rfl, hb⟩
      refine ⟨_, rfl, ?_⟩
      have n0_ := Aside0.mk (Kd.R_below (rw_ HO144.out) hb)
      have n1_ := bb_ BK140 hb
      have n2_ := bs_ HB hb
      clear HO144
      clear BK140
      clear HB
      have HO144 := n0_
      have BK140 := n1_
      have HB := n2_
      clear n0_ n1_ n2_
      (try clear hb)
      (try clear hb2)
      (try clear hk)
      (try clear hi)
      refine hK.out _ _ ⟨(blk_cell BK140.out 0).trans rfl, (blk_cell BK140.out 1).trans rfl, (blk_cell BK140.out 2).trans rfl, (blk_cell BK140.out 3).trans rfl⟩ (fun hHeld => ?_)
      clear hK K
      refine norm_ (a' := ?_) ?_ ?_
      rotate_left
      ·show Act.put _ (some 14) _ = _
       simp only [Act.put, List.setIfInBounds_toArray, List.set_cons_zero, List.set_cons_succ, i64_w, i32_w]
       rfl
      exact norm_ (by first | (simp only [putAll, Act.put, List.setIfInBounds_toArray, List.set_cons_zero, List.set_cons_succ]; done) | (simp only [putAll, Act.put, List.setIfInBounds_toArray, List.set_cons_zero, List.set_cons_succ]; rfl)) (hJ3_4_7 (v143) _ ⟨hHeld, (rw_ HO144.out), (bw_ BK140.out), (hb_ HB)⟩)
    ·skip
     rintro v143 w17 ⟨hS_, h0_, h1_, h2_⟩
     have n0_ : Aside0 (Kd.R (Kd.int .u8) 5 w17 w.heap.size (fun _ => True) v143 y142) := ⟨h0_⟩
     have n1_ : Aside0 (w17.heap[gb140]? = some (.cells #[.int .i64 a0_0, .int .i64 a0_1, .int .i64 a0_2, .string a0_3] 24 (0, 0))) := ⟨h1_⟩
     have n2_ : Aside0 (Below w.heap.size w w17) := ⟨h2_⟩
     clear BK140
     clear HB
     clear h0_ h1_ h2_
     have HO144 := n0_
     have BK140 := n1_
     have HB := n2_
     clear n0_ n1_ n2_
     have hHeld : w17.cell? ⟨gb140, 0, none⟩ = some (.int .i64 a0_0) ∧ w17.cell? ⟨gb140, 1, none⟩ = some (.int .i64 a0_1) ∧ w17.cell? ⟨gb140, 2, none⟩ = some (.int .i64 a0_2) ∧ w17.cell? ⟨gb140, 3, none⟩ = some (.string a0_3) := hS_
     refine norm_ (a' := ?_) ?_ ?_
     rotate_left
     ·simp only [putAll, Act.put, List.setIfInBounds_toArray, List.set_cons_zero, List.set_cons_succ]
      rfl
     refine one_ (i := 4) (N := some 11) #[true, true, true, true, true, true, true, true, true, true, true, true, true, false, false, false] rfl rfl (one_of HT_.out (by kernel_rfl)) (by decide) (fun K hK => ?_)
     have hcv18 := own_string (P := Try.prog) Try.underlying84 Try.underlying5 Try.underlying9 (Kd.own_of_R HO144.out)
     refine value_ (w1 := ?_) (v := ?_) (by rfl) rfl ?_ ?_
     rotate_left 2
     ·go_simp
      constructor
      ·rfl
      ·rfl
     clear hcv18
     refine hK.out _ _ ⟨(blk_cell BK140.out 0).trans rfl, (blk_cell BK140.out 1).trans rfl, (blk_cell BK140.out 2).trans rfl, (blk_cell BK140.out 3).trans rfl⟩ (fun hHeld => ?_)
     clear hK K
     refine norm_ (a' := ?_) ?_ ?_
     rotate_left
     ·show Act.put _ (some 11) _ = _
      simp only [Act.put, List.setIfInBounds_toArray, List.set_cons_zero, List.set_cons_succ, i64_w, i32_w]
      rfl
     exact norm_ (by first | (simp only [putAll, Act.put, List.setIfInBounds_toArray, List.set_cons_zero, List.set_cons_succ]; done) | (simp only [putAll, Act.put, List.setIfInBounds_toArray, List.set_cons_zero, List.set_cons_succ]; rfl)) (hJ3_4_7_10 (v143) _ ⟨hHeld, (rw_ HO144.out), (bw_ BK140.out), (hb_ HB)⟩)
   ·skip
    rintro v143 w17 ⟨hS_, h0_, h1_, h2_⟩
    have n0_ : Aside0 (Kd.R (Kd.int .u8) 5 w17 w.heap.size (fun _ => True) v143 y142) := ⟨h0_⟩
    have n1_ : Aside0 (w17.heap[gb140]? = some (.cells #[.int .i64 a0_0, .int .i64 a0_1, .int .i64 a0_2, .string a0_3] 24 (0, 0))) := ⟨h1_⟩
    have n2_ : Aside0 (Below w.heap.size w w17) := ⟨h2_⟩
    clear BK140
    clear HB
    clear h0_ h1_ h2_
    have HO144 := n0_
    have BK140 := n1_
    have HB := n2_
    clear n0_ n1_ n2_
    have hHeld : w17.cell? ⟨gb140, 0, none⟩ = some (.int .i64 a0_0) ∧ w17.cell? ⟨gb140, 1, none⟩ = some (.int .i64 a0_1) ∧ w17.cell? ⟨gb140, 2, none⟩ = some (.int .i64 a0_2) ∧ w17.cell? ⟨gb140, 3, none⟩ = some (.string a0_3) := hS_
    refine norm_ (a' := ?_) ?_ ?_
    rotate_left
    ·simp only [putAll, Act.put, List.setIfInBounds_toArray, List.set_cons_zero, List.set_cons_succ]
     rfl
    refine one_ (i := 10) (N := some 17) #[true, true, true, true, true, true, true, true, true, true, true, true, true, false, false, false] rfl rfl (one_of HT_.out (by kernel_rfl)) (by decide) (fun K hK => ?_)
    refine goes_ Try.func52 (by kernel_rfl) rfl #[.int .i64 a0_2] (by rfl) rfl rfl (by (try simp only [List.map_toArray, List.map_cons, List.map_nil]); first | done | rfl | (simp only [List.length_drop, List.length_take]; rfl)) ?_
    with_reducible refine (code_Num.calls k a0_2 t146 _ A5.out).mono ?_
    rintro e w18 ⟨rfl, hb⟩
    refine ⟨_, rfl, ?_⟩
    have n0_ := Aside0.mk (Kd.R_below (rw_ HO144.out) hb)
    have n1_ := bb_ BK140 hb
    have n2_ := bs_ HB hb
    clear HO144
    clear BK140
    clear HB
    have HO144 := n0_
    have BK140 := n1_
    have HB := n2_
    clear n0_ n1_ n2_
    (try clear hb)
    (try clear hb2)
    (try clear hk)
    (try clear hi)
    refine hK.out _ _ ⟨(blk_cell BK140.out 0).trans rfl, (blk_cell BK140.out 1).trans rfl, (blk_cell BK140.out 2).trans rfl, (blk_cell BK140.out 3).trans rfl⟩ (fun hHeld => ?_)
    clear hK K
    refine norm_ (a' := ?_) ?_ ?_
    rotate_left
    ·show Act.put _ (some 17) _ = _
     simp only [Act.put, List.setIfInBounds_toArray, List.set_cons_zero, List.set_cons_succ, i64_w, i32_w]
     rfl
    exact norm_ (by first | (simp only [putAll, Act.put, List.setIfInBounds_toArray, List.set_cons_zero, List.set_cons_succ]; done) | (simp only [putAll, Act.put, List.setIfInBounds_toArray, List.set_cons_zero, List.set_cons_succ]; rfl)) (hJ3_4_7_10 (v143) _ ⟨hHeld, (rw_ HO144.out), (bw_ BK140.out), (hb_ HB)⟩)
  rintro v143 w18 ⟨hS_, h0_, h1_, h2_⟩
  have n0_ : Aside0 (Kd.R (Kd.int .u8) 5 w18 w.heap.size (fun _ => True) v143 y142) := ⟨h0_⟩
  have n1_ : Aside0 (w18.heap[gb140]? = some (.cells #[.int .i64 a0_0, .int .i64 a0_1, .int .i64 a0_2, .string a0_3] 24 (0, 0))) := ⟨h1_⟩
  have n2_ : Aside0 (Below w.heap.size w w18) := ⟨h2_⟩
  clear BK140
  clear HB
  clear h0_ h1_ h2_
  have HO144 := n0_
  have BK140 := n1_
  have HB := n2_
  clear n0_ n1_ n2_
  have hHeld : w18.cell? ⟨gb140, 0, none⟩ = some (.int .i64 a0_0) ∧ w18.cell? ⟨gb140, 1, none⟩ = some (.int .i64 a0_1) ∧ w18.cell? ⟨gb140, 2, none⟩ = some (.int .i64 a0_2) ∧ w18.cell? ⟨gb140, 3, none⟩ = some (.string a0_3) := hS_
  refine norm_ (a' := ?_) ?_ ?_
  rotate_left
  ·simp only [putAll, Act.put, List.setIfInBounds_toArray, List.set_cons_zero, List.set_cons_succ]
   rfl
  refine one_ (i := 13) (N := some 20) #[true, true, true, true, true, true, true, true, true, true, true, true, true, true, false, false] rfl rfl (one_of HT_.out (by kernel_rfl)) (by decide) (fun K hK => ?_)
  refine Kd.R_lit_step Kd.string _ 9 ?hg (N := 20) ?hd (xs := ([strOfNums y142, t145, t146, a0_3] : List ByteArray)) (inner := [.string (strOfNums y142), .string t145, .string t146, .string a0_3]) (ok := fun _ => True) (okp := fun _ => True) ?hr ?hp (fun _ hk => hk) trivial (Below.refl _ _) (Nat.le_refl _) (by simp) ?_; (case hd => rfl); (case hg => rfl); (case hr => first | (go_simp; done) | (go_simp; rfl)); (case hp => exact (Reps.one (show Kd.M Kd.string _ _ _ (strOfNums y142) [.string (strOfNums y142)] from rfl) (Reps.one (show Kd.M Kd.string _ _ _ t145 [.string t145] from rfl) (Reps.one (show Kd.M Kd.string _ _ _ t146 [.string t146] from rfl) (Reps.one (show Kd.M Kd.string _ _ _ a0_3 [.string a0_3] from rfl) (Reps.none _ _))))))
  intro v148 w19 ho20 hb hg_ hnew_
  clear hg_ hnew_
  (first | rw [← Ny147.out] at ho20 | (simp only [Int.reduceToNat] at ho20; rw [← Ny147.out] at ho20))
  have n0_ := Aside0.mk (Kd.R_below (rw_ HO144.out) hb)
  have n1_ := Aside0.mk (Kd.R_lower ho20 (below_size (hb_ HB)))
  have n2_ := bb_ BK140 hb
  have n3_ := bs_ HB hb
  clear HO144
  clear BK140
  clear HB
  have HO144 := n0_
  have HO149 := n1_
  have BK140 := n2_
  have HB := n3_
  clear n0_ n1_ n2_ n3_
  clear hb ho20
  obtain ⟨Ao21, co21, eo21⟩ := Kd.R_slice HO149.out
  (first | subst eo21 | (injection eo21 with f1_ f2_ f3_; have f4_ := f1_.symm; have f5_ := f3_.symm; clear f1_ f2_ f3_; subst f4_; subst f5_))
  refine hK.out _ _ ⟨(blk_cell BK140.out 0).trans rfl, (blk_cell BK140.out 1).trans rfl, (blk_cell BK140.out 2).trans rfl, (blk_cell BK140.out 3).trans rfl⟩ (fun hHeld => ?_)
  clear hK K
  refine norm_ (a' := ?_) ?_ ?_
  rotate_left
  ·show Act.put _ (some 20) _ = _
   simp only [Act.put, List.setIfInBounds_toArray, List.set_cons_zero, List.set_cons_succ, i64_w, i32_w]
   rfl
  refine one_ (i := 14) (N := some 21) #[true, true, true, true, true, true, true, true, true, true, true, true, true, true, true, false] rfl rfl (one_of HT_.out (by kernel_rfl)) (by decide) (fun K hK => ?_)
  refine goes_ Try.func51 (by kernel_rfl) rfl #[.slice Ao21 y147.length co21] (by rfl) rfl rfl (by (try simp only [List.map_toArray, List.map_cons, List.map_nil]); first | done | rfl | (simp only [List.length_drop, List.length_take]; rfl)) ?_
  with_reducible refine (record_glue.calls _ _ y147 t150 _ ?side1 ?side2 A6.out).mono ?_
  (case side1 => repeat (first | exact (Kd.R_reads' HO149.out).2.2 | (with_reducible refine Kd.C_alloc ?_ _) | (with_reducible refine Kd.C_drewN ?_ _) | (with_reducible refine Kd.C_drew ?_)))
  (case side2 => exact (Kd.R_reads' HO149.out).2.1)
  rintro e w22 ⟨rfl, hb⟩
  refine ⟨_, rfl, ?_⟩
  have n0_ := Aside0.mk (Kd.R_below (rw_ HO144.out) hb)
  have n1_ := Aside0.mk (Kd.R_below (rw_ HO149.out) hb)
  have n2_ := bb_ BK140 hb
  have n3_ := bs_ HB hb
  clear HO144
  clear HO149
  clear BK140
  clear HB
  have HO144 := n0_
  have HO149 := n1_
  have BK140 := n2_
  have HB := n3_
  clear n0_ n1_ n2_ n3_
  (try clear hb)
  (try clear hb2)
  (try clear hk)
  (try clear hi)
  refine hK.out _ _ ⟨(blk_cell BK140.out 0).trans rfl, (blk_cell BK140.out 1).trans rfl, (blk_cell BK140.out 2).trans rfl, (blk_cell BK140.out 3).trans rfl⟩ (fun hHeld => ?_)
  clear hK K
  refine norm_ (a' := ?_) ?_ ?_
  rotate_left
  ·show Act.put _ (some 21) _ = _
   simp only [Act.put, List.setIfInBounds_toArray, List.set_cons_zero, List.set_cons_succ, i64_w, i32_w]
   rfl
  refine pp_ (i := 15) (N := some 3) #[true, true, true, true, true, true, true, true, true, true, true, true, true, true, true, true] rfl rfl (any_of HT_.out (by kernel_rfl)) (h := ?_)
  refine done_ (done_of HT_.out (by kernel_rfl)) ?_
  try go_wp2_with (first | ((with_reducible refine gate_callee (f := 57) rfl ?_); refine ge_ (some 23) rfl rfl Try.func57 (by kernel_rfl) rfl #[.string t150] rfl (h := ?_); (with_reducible refine (code_Text.calls k t150 t151 _ A7.out).mono ?_); rintro e w23 ⟨rfl, hb⟩; refine ⟨_, rfl, ?_⟩; replace HO144 := Aside0.mk (Kd.R_below (rw_ HO144.out) hb); replace HO149 := Aside0.mk (Kd.R_below (rw_ HO149.out) hb); replace BK140 := bb_ BK140 hb; replace HB := bs_ HB hb; (try clear hb); (try clear hb2); (try clear hk); (try clear hi)) | ((with_reducible refine gate_callee (f := 56) rfl ?_); refine ge_ (some 24) rfl rfl Try.func56 (by kernel_rfl) rfl #[.string t151] rfl (h := ?_); (with_reducible refine (crc_Seal.calls k t151 t152 _ A8.out).mono ?_); rintro e w24 ⟨rfl, hb⟩; refine ⟨_, rfl, ?_⟩; replace HO144 := Aside0.mk (Kd.R_below (rw_ HO144.out) hb); replace HO149 := Aside0.mk (Kd.R_below (rw_ HO149.out) hb); replace BK140 := bb_ BK140 hb; replace HB := bs_ HB hb; (try clear hb); (try clear hb2); (try clear hk); (try clear hi)))
  go_ret
  exact ⟨er_, hb_ HB⟩
 ·replace c3 := Bool.eq_false_iff.mpr c3
  subst c3
  have H1 : (some (⟨#[]⟩ : ByteArray)) = some r := by rw [if_neg (show ¬ (false = true) by decide)] at H; exact H
  clear H
  have H := H1
  clear H1
  obtain rfl := Option.some.inj H
  go_enter Try.func22, Try.ntmps22
  go_wp2_with (first | ((with_reducible refine gate_dst (N := 1) rfl ?_); refine be_ (N := 1) (cs := #[.int .i64 a0_0, .int .i64 a0_1, .int .i64 a0_2, .string a0_3]) (t := 24) (h := ?_); intro gb140 hg w25 hbox hb; have BK140 := Aside0.mk (hbox); have GW140 := gw_ HB hg; have GE140 := gw_ HB hg; replace HB := bs_ HB hb; clear hb hbox hg; obtain ⟨hcz26_0, hcz26_1, hcz26_2, hcz26_3, hfz26_0, hfz26_1, hfz26_2, hfz26_3⟩ := bc4_ BK140) | ((with_reducible refine gate_callee (f := 20) rfl ?_); refine ge_ (some 5) rfl rfl Try.func20 (by kernel_rfl) rfl #[.agg #[.int .i64 a0_0, .int .i64 a0_1, .int .i64 a0_2, .string a0_3]] rfl (h := ?_); (with_reducible refine (record_Right.calls a0_0 a0_1 a0_2 a0_3 false _ A2.out).mono ?_); rintro e w27 ⟨rfl, hb⟩; refine ⟨_, rfl, ?_⟩; replace BK140 := bb_ BK140 hb; replace HB := bs_ HB hb; (try clear hb); (try clear hb2); (try clear hk); (try clear hi)))
  go_ret
  exact ⟨er_, hb_ HB⟩

/-! ### calamuslaw33_lives: function 17 -/
def calamuslaw33_lives.f (k : Nat)  : Option (Bool) := (record_Pressed.f 1 0 97).bind fun bt153 => ((record_Bytes.f k bt153.1 bt153.2.1 bt153.2.2.1 bt153.2.2.2).bind fun t157 => (some ((t157.size : Int) == 18)))
theorem calamuslaw33_lives.mono : ∀ k, LeO (calamuslaw33_lives.f k ) (calamuslaw33_lives.f (k + 1) ) := by
 intro  k
 unfold calamuslaw33_lives.f
 repeat' first
   | (with_reducible exact record_Bytes.mono _ _ _ _ _)
   | (with_reducible exact LeO.refl _)
   | (with_reducible exact LeO.none _)
   | (with_reducible refine LeO.ite ?_ ?_)
   | (with_reducible refine LeO.bind ?_ (fun _ => ?_))
   | exact record_Bytes.mono _ _ _ _ _
   | exact LeO.none _
   | refine LeO.ite ?_ ?_
   | refine LeO.bind ?_ (fun _ => ?_)
theorem calamuslaw33_lives.true_ {k : Nat} {r : Bool} (h : calamuslaw33_lives.f k = some r) : r = true := by
 have h1 := at_rounds (g := fun k => calamuslaw33_lives.f k) calamuslaw33_lives.mono (Nat.le_max_left k 60) h
 have h2 := at_rounds (g := fun k => calamuslaw33_lives.f k) calamuslaw33_lives.mono (Nat.le_max_right k 60) (show calamuslaw33_lives.f 60 = some true by decide +kernel)
 rw [h1] at h2
 exact Option.some.inj h2
set_option maxHeartbeats 8000000 in
set_option maxRecDepth 100000 in
theorem calamuslaw33_lives.calls (k : Nat)  (r : Bool) (w : World) (h : calamuslaw33_lives.f k  = some r) :
  Calls Try.prog 17 #[] w fun e w' => e = .returned (.bool r) ∧ Below w.heap.size w w' := by
 have hr_ := calamuslaw33_lives.true_ h
 have HB := Aside0.mk (Below.refl w.heap.size w)
 have H : ((record_Pressed.f 1 0 97).bind fun bt153 => ((record_Bytes.f k bt153.1 bt153.2.1 bt153.2.2.1 bt153.2.2.2).bind fun t157 => (some ((t157.size : Int) == 18)))) = some r := h
 clear h
 replace H := Option.bind_eq_some_iff.mp H
 obtain ⟨⟨t153, t154, t155, t156⟩, A10, H⟩ := H
 replace H : ((record_Bytes.f k t153 t154 t155 t156).bind fun t157 => (some ((t157.size : Int) == 18))) = some r := H
 have A1 := Aside0.mk A10
 clear A10
 replace H := Option.bind_eq_some_iff.mp H
 obtain ⟨t157, A20, H⟩ := H
 replace H : (some ((t157.size : Int) == 18)) = some r := H
 have A2 := Aside0.mk A20
 clear A20
 obtain rfl := Option.some.inj H
 go_enter Try.func17, Try.ntmps17
 go_wp2_with (first | ((with_reducible refine gate_callee (f := 13) rfl ?_); refine ge_ (some 1) rfl rfl Try.func13 (by kernel_rfl) rfl #[.int .i64 1, .int .i64 0, .int .u8 97] rfl (h := ?_); (with_reducible refine (record_Pressed.calls 1 0 97 t153 t154 t155 t156 _ A1.out).mono ?_); rintro e w3 ⟨rfl, hb⟩; refine ⟨_, rfl, ?_⟩; replace HB := bs_ HB hb; (try clear hb); (try clear hb2); (try clear hk); (try clear hi)) | ((with_reducible refine gate_callee (f := 22) rfl ?_); refine ge_ (some 2) rfl rfl Try.func22 (by kernel_rfl) rfl #[.agg #[.int .i64 t153, .int .i64 t154, .int .i64 t155, .string t156]] rfl (h := ?_); (with_reducible refine (record_Bytes.calls k t153 t154 t155 t156 t157 _ A2.out).mono ?_); rintro e w4 ⟨rfl, hb⟩; refine ⟨_, rfl, ?_⟩; replace HB := bs_ HB hb; (try clear hb); (try clear hb2); (try clear hk); (try clear hi)))
 go_ret
 exact ⟨er_, hb_ HB⟩

/-! ### calamuslaw33_RecordMakes: function 3 -/
def calamuslaw33_RecordMakes.f (k : Nat) (a0 : Int) (a1 : Int) (a2 : Int) (a3 : Int) : Option (Bool) := (record_Pressed.f a0 a1 a2).bind fun bt158 => ((calamusref33_Pressed.f a0 a1 a2).bind fun bt162 => (if (bt158.1 == bt162.1 && (bt158.2.1 == bt162.2.1 && (bt158.2.2.1 == bt162.2.2.1 && (bt158.2.2.2.toList == bt162.2.2.2.toList)))) = true then ((record_Replied.f k a0 a1 a2 a3).bind fun bt166 => ((calamusref33_Replied.f a0 a1 a2 a3).bind fun bt170 => (if (bt166.1 == bt170.1 && (bt166.2.1 == bt170.2.1 && (bt166.2.2.1 == bt170.2.2.1 && (bt166.2.2.2.toList == bt170.2.2.2.toList)))) = true then ((calamuslaw33_lives.f k).bind fun t174 => (some t174)) else (some false)))) else (some false)))
theorem calamuslaw33_RecordMakes.mono : ∀ a0 a1 a2 a3 k, LeO (calamuslaw33_RecordMakes.f k a0 a1 a2 a3) (calamuslaw33_RecordMakes.f (k + 1) a0 a1 a2 a3) := by
 intro a0 a1 a2 a3 k
 unfold calamuslaw33_RecordMakes.f
 repeat' first
   | (with_reducible exact calamuslaw33_lives.mono _)
   | (with_reducible exact record_Replied.mono _ _ _ _ _)
   | (with_reducible exact LeO.refl _)
   | (with_reducible exact LeO.none _)
   | (with_reducible refine LeO.ite ?_ ?_)
   | (with_reducible refine LeO.bind ?_ (fun _ => ?_))
   | exact calamuslaw33_lives.mono _
   | exact record_Replied.mono _ _ _ _ _
   | exact LeO.none _
   | refine LeO.ite ?_ ?_
   | refine LeO.bind ?_ (fun _ => ?_)
set_option maxHeartbeats 8000000 in
set_option maxRecDepth 100000 in
theorem calamuslaw33_RecordMakes.calls (k : Nat) (a0 : Int) (a1 : Int) (a2 : Int) (a3 : Int) (r : Bool) (w : World) (h : calamuslaw33_RecordMakes.f k a0 a1 a2 a3 = some r) (hr_ : r = true := by rfl) :
  Calls Try.prog 3 #[.int .i64 a0, .int .i64 a1, .int .u8 a2, .int .i64 a3] w fun e w' => e = .returned (.bool r) ∧ Below w.heap.size w w' := by
 have HB := Aside0.mk (Below.refl w.heap.size w)
 have H : ((record_Pressed.f a0 a1 a2).bind fun bt158 => ((calamusref33_Pressed.f a0 a1 a2).bind fun bt162 => (if (bt158.1 == bt162.1 && (bt158.2.1 == bt162.2.1 && (bt158.2.2.1 == bt162.2.2.1 && (bt158.2.2.2.toList == bt162.2.2.2.toList)))) = true then ((record_Replied.f k a0 a1 a2 a3).bind fun bt166 => ((calamusref33_Replied.f a0 a1 a2 a3).bind fun bt170 => (if (bt166.1 == bt170.1 && (bt166.2.1 == bt170.2.1 && (bt166.2.2.1 == bt170.2.2.1 && (bt166.2.2.2.toList == bt170.2.2.2.toList)))) = true then ((calamuslaw33_lives.f k).bind fun t174 => (some t174)) else (some false)))) else (some false)))) = some r := h
 clear h
 replace H := Option.bind_eq_some_iff.mp H
 obtain ⟨⟨t158, t159, t160, t161⟩, A50, H⟩ := H
 replace H : ((calamusref33_Pressed.f a0 a1 a2).bind fun bt162 => (if (t158 == bt162.1 && (t159 == bt162.2.1 && (t160 == bt162.2.2.1 && (t161.toList == bt162.2.2.2.toList)))) = true then ((record_Replied.f k a0 a1 a2 a3).bind fun bt166 => ((calamusref33_Replied.f a0 a1 a2 a3).bind fun bt170 => (if (bt166.1 == bt170.1 && (bt166.2.1 == bt170.2.1 && (bt166.2.2.1 == bt170.2.2.1 && (bt166.2.2.2.toList == bt170.2.2.2.toList)))) = true then ((calamuslaw33_lives.f k).bind fun t174 => (some t174)) else (some false)))) else (some false))) = some r := H
 have A5 := Aside0.mk A50
 clear A50
 replace H := Option.bind_eq_some_iff.mp H
 obtain ⟨⟨t162, t163, t164, t165⟩, A60, H⟩ := H
 replace H : (if (t158 == t162 && (t159 == t163 && (t160 == t164 && (t161.toList == t165.toList)))) = true then ((record_Replied.f k a0 a1 a2 a3).bind fun bt166 => ((calamusref33_Replied.f a0 a1 a2 a3).bind fun bt170 => (if (bt166.1 == bt170.1 && (bt166.2.1 == bt170.2.1 && (bt166.2.2.1 == bt170.2.2.1 && (bt166.2.2.2.toList == bt170.2.2.2.toList)))) = true then ((calamuslaw33_lives.f k).bind fun t174 => (some t174)) else (some false)))) else (some false)) = some r := H
 have A6 := Aside0.mk A60
 clear A60
 by_cases c7 : (t158 == t162 && (t159 == t163 && (t160 == t164 && (t161.toList == t165.toList)))) = true
 ·rw [if_pos c7] at H
  have c7b0 : (t158 == t162 && (t159 == t163 && (t160 == t164 && (t161.toList == t165.toList)))) = true := c7
  (try (have c7b1 : decide (t158 = t162 && (t159 == t163 && (t160 == t164 && (t161.toList == t165.toList)))) = true := by simpa using c7))
  (try (have c7b2 : (t158 == t162 && (t159 == t163 && (t160 == t164 && (t161.toList == t165.toList)))) = true := by simpa using c7))
  clear c7
  replace H := Option.bind_eq_some_iff.mp H
  obtain ⟨⟨t166, t167, t168, t169⟩, A80, H⟩ := H
  replace H : ((calamusref33_Replied.f a0 a1 a2 a3).bind fun bt170 => (if (t166 == bt170.1 && (t167 == bt170.2.1 && (t168 == bt170.2.2.1 && (t169.toList == bt170.2.2.2.toList)))) = true then ((calamuslaw33_lives.f k).bind fun t174 => (some t174)) else (some false))) = some r := H
  have A8 := Aside0.mk A80
  clear A80
  replace H := Option.bind_eq_some_iff.mp H
  obtain ⟨⟨t170, t171, t172, t173⟩, A90, H⟩ := H
  replace H : (if (t166 == t170 && (t167 == t171 && (t168 == t172 && (t169.toList == t173.toList)))) = true then ((calamuslaw33_lives.f k).bind fun t174 => (some t174)) else (some false)) = some r := H
  have A9 := Aside0.mk A90
  clear A90
  by_cases c10 : (t166 == t170 && (t167 == t171 && (t168 == t172 && (t169.toList == t173.toList)))) = true
  ·rw [if_pos c10] at H
   have c10b0 : (t166 == t170 && (t167 == t171 && (t168 == t172 && (t169.toList == t173.toList)))) = true := c10
   (try (have c10b1 : decide (t166 = t170 && (t167 == t171 && (t168 == t172 && (t169.toList == t173.toList)))) = true := by simpa using c10))
   (try (have c10b2 : (t166 == t170 && (t167 == t171 && (t168 == t172 && (t169.toList == t173.toList)))) = true := by simpa using c10))
   clear c10
   replace H := Option.bind_eq_some_iff.mp H
   obtain ⟨t174, A110, H⟩ := H
   replace H : (some t174) = some r := H
   have A11 := Aside0.mk A110
   clear A110
   obtain rfl := Option.some.inj H
   go_enter Try.func3, Try.ntmps3
   go_wp2_with (first | ((with_reducible refine gate_callee (f := 13) rfl ?_); refine ge_ (some 12) rfl rfl Try.func13 (by kernel_rfl) rfl #[.int .i64 a0, .int .i64 a1, .int .u8 a2] rfl (h := ?_); (with_reducible refine (record_Pressed.calls a0 a1 a2 t158 t159 t160 t161 _ A5.out).mono ?_); rintro e w12 ⟨rfl, hb⟩; refine ⟨_, rfl, ?_⟩; replace HB := bs_ HB hb; (try clear hb); (try clear hb2); (try clear hk); (try clear hi)) | ((with_reducible refine gate_callee (f := 14) rfl ?_); refine ge_ (some 16) rfl rfl Try.func14 (by kernel_rfl) rfl #[.int .i64 a0, .int .i64 a1, .int .u8 a2] rfl (h := ?_); (with_reducible refine (calamusref33_Pressed.calls a0 a1 a2 t162 t163 t164 t165 _ A6.out).mono ?_); rintro e w13 ⟨rfl, hb⟩; refine ⟨_, rfl, ?_⟩; replace HB := bs_ HB hb; (try clear hb); (try clear hb2); (try clear hk); (try clear hi)) | (go_at_call 15; (with_reducible refine (record_Replied.calls k a0 a1 a2 a3 t166 t167 t168 t169 _ A8.out).mono ?_); rintro e w14 ⟨rfl, hb⟩; replace HB := bs_ HB hb; (try clear hb); (try clear hb2); (try clear hk); (try clear hi)) | (go_at_call 16; (with_reducible refine (calamusref33_Replied.calls a0 a1 a2 a3 t170 t171 t172 t173 _ A9.out).mono ?_); rintro e w15 ⟨rfl, hb⟩; replace HB := bs_ HB hb; (try clear hb); (try clear hb2); (try clear hk); (try clear hi)) | (go_at_call 17; (with_reducible refine (calamuslaw33_lives.calls k  t174 _ A11.out).mono ?_); rintro e w16 ⟨rfl, hb⟩; replace HB := bs_ HB hb; (try clear hb); (try clear hb2); (try clear hk); (try clear hi)))
   go_ret
   exact ⟨er_, hb_ HB⟩
  ·rw [if_neg c10] at H
   have c10b0 : (t166 == t170 && (t167 == t171 && (t168 == t172 && (t169.toList == t173.toList)))) = false := by simpa using c10
   (try (have c10b1 : decide (t166 = t170 && (t167 == t171 && (t168 == t172 && (t169.toList == t173.toList)))) = false := by simpa using c10))
   (try (have c10b2 : (t166 == t170 && (t167 == t171 && (t168 == t172 && (t169.toList == t173.toList)))) = false := by simpa using c10))
   (try (have c10b3 : ¬ (t166 = t170 && (t167 == t171 && (t168 == t172 && (t169.toList == t173.toList)))) := by simpa using c10))
   clear c10
   exact nf_ H hr_
 ·rw [if_neg c7] at H
  have c7b0 : (t158 == t162 && (t159 == t163 && (t160 == t164 && (t161.toList == t165.toList)))) = false := by simpa using c7
  (try (have c7b1 : decide (t158 = t162 && (t159 == t163 && (t160 == t164 && (t161.toList == t165.toList)))) = false := by simpa using c7))
  (try (have c7b2 : (t158 == t162 && (t159 == t163 && (t160 == t164 && (t161.toList == t165.toList)))) = false := by simpa using c7))
  (try (have c7b3 : ¬ (t158 = t162 && (t159 == t163 && (t160 == t164 && (t161.toList == t165.toList)))) := by simpa using c7))
  clear c7
  exact nf_ H hr_
/-- THE ONE PURE STATEMENT of calamuslaw33_RecordMakes: yours. -/
def calamuslaw33_RecordMakes.Pure : Prop := ∀ (a0 : Int) (a1 : Int) (a2 : Int) (a3 : Int), (Lit.int .i64 a0).wf = true → (Lit.int .i64 a1).wf = true → (Lit.int .u8 a2).wf = true → (Lit.int .i64 a3).wf = true → ∃ k, calamuslaw33_RecordMakes.f k a0 a1 a2 a3 = some true
theorem calamuslaw33_RecordMakes.walk (P : calamuslaw33_RecordMakes.Pure) (a0 : Int) (a1 : Int) (a2 : Int) (a3 : Int) (w : World) (w0 : (Lit.int .i64 a0).wf = true) (w1 : (Lit.int .i64 a1).wf = true) (w2 : (Lit.int .u8 a2).wf = true) (w3 : (Lit.int .i64 a3).wf = true) :
  Calls Try.prog 3 #[.int .i64 a0, .int .i64 a1, .int .u8 a2, .int .i64 a3] w fun e w' => e = .returned (.bool true) ∧ Below w.heap.size w w' := by
 obtain ⟨k, h⟩ := P a0 a1 a2 a3 w0 w1 w2 w3
 refine (calamuslaw33_RecordMakes.calls k a0 a1 a2 a3 true w h).mono ?_
 rintro e w' ⟨rfl, hd⟩
 exact ⟨rfl, hd⟩

end Go.Proofs.Ytealbonfaebikaa.PRecordMakes
