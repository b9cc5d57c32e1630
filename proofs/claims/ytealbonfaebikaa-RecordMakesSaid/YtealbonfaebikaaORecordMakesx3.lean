/- Of the law calamus/calamuslaw33.RecordMakes: each function as a plain Lean function, with a proof that the call comes to it; the row. By wip/tpl/own_print.py. Conditions: none but the row's own. -/
import Derived.Test.YtealbonfaebikaaORecordMakesx0
import Derived.Test.YtealbonfaebikaaORecordMakesx2
namespace Go.Proofs.Ytealbonfaebikaa.PRecordMakes
open Go.RowKit Go.Proofs.YtealbonfaebikaaW.PrintWords Go.Proofs.YtealbonfaebikaaW.PrintLast Go.Proofs.YtealbonfaebikaaW.PrintMore
attribute [local go_sem] max2_int min2_int max_two min_two max_three min_three max_four min_four   -- for this text's walks alone
set_option linter.unusedVariables false
set_option linter.unusedSimpArgs false

/-! ### calamusref33_Replied: function 16 -/
def calamusref33_Replied.f (a0 : Int) (a1 : Int) (a2 : Int) (a3 : Int) : Option (Int × Int × Int × ByteArray) := (some (([a2] : List Int) : List Int)).bind fun y127 => ((calamusref01_Num.f a3).bind fun t130 => (if (strOfNums y127).size + t130.size ≤ 9223372036854775807 then (some (2, a0, a1, (strOfNums y127) ++ t130)) else (none)))
def calamusref33_Replied.T1 : Bool × List (List Nat × List Nat) := (true, [([], []), ([], []), ([], []), ([2], [2]), ([3], [3]), ([], []), ([5], [5]), ([4, 6], [4, 6]), ([0, 1, 7], [0, 1, 7]), ([8, 6, 0, 1, 2, 3, 4, 5, 6, 7, 8], [8])])
def calamusref33_Replied.B1 : List Nat := [0, 0, 0, 4, 12, 0, 32, 124, 255, 511]
theorem calamusref33_Replied.tab1 : rtab .any (opsOf Try.f16 1) = calamusref33_Replied.T1 := by kernel_rfl
theorem calamusref33_Replied.bits1 : waitsOk calamusref33_Replied.T1.2 calamusref33_Replied.B1 = true := by kernel_rfl
set_option maxHeartbeats 8000000 in
set_option maxRecDepth 100000 in
theorem calamusref33_Replied.calls (a0 : Int) (a1 : Int) (a2 : Int) (a3 : Int) (r1 : Int) (r2 : Int) (r3 : Int) (r4 : ByteArray) (w : World) (h : calamusref33_Replied.f a0 a1 a2 a3 = some (r1, r2, r3, r4)) :
  Calls Try.prog 16 #[.int .i64 a0, .int .i64 a1, .int .u8 a2, .int .i64 a3] w fun e w' => e = .returned (.agg #[.int .i64 r1, .int .i64 r2, .int .i64 r3, .string r4]) ∧ Below w.heap.size w w' := by
 have hu26 := Try.underlying26
 have HB := Aside0.mk (Below.refl w.heap.size w)
 have H : ((some (([a2] : List Int) : List Int)).bind fun y127 => ((calamusref01_Num.f a3).bind fun t130 => (if (strOfNums y127).size + t130.size ≤ 9223372036854775807 then (some (2, a0, a1, (strOfNums y127) ++ t130)) else (none)))) = some (r1, r2, r3, r4) := h
 clear h
 obtain ⟨y127, hy127⟩ : ∃ y_ : List Int, y_ = (([a2] : List Int)) := ⟨_, rfl⟩
 replace H : ((calamusref01_Num.f a3).bind fun t130 => (if (strOfNums y127).size + t130.size ≤ 9223372036854775807 then (some (2, a0, a1, (strOfNums y127) ++ t130)) else (none))) = some (r1, r2, r3, r4) := th_ H hy127
 have Ny127 := Aside0.mk hy127
 clear hy127
 replace H := Option.bind_eq_some_iff.mp H
 obtain ⟨t130, A50, H⟩ := H
 replace H : (if (strOfNums y127).size + t130.size ≤ 9223372036854775807 then (some (2, a0, a1, (strOfNums y127) ++ t130)) else (none)) = some (r1, r2, r3, r4) := H
 have A5 := Aside0.mk A50
 clear A50
 by_cases c6 : (strOfNums y127).size + t130.size ≤ 9223372036854775807
 ·rw [if_pos c6] at H
  have c6b0 := eq_true c6
  try (have c6b0x := c6b0; simp only [ByteArray.size_extract, Nat.min_self] at c6b0x)
  have c6b1 : decide ((strOfNums y127).size + t130.size ≤ 9223372036854775807) = true := decide_eq_true c6
  try have c6b2 : (9223372036854775807 < (strOfNums y127).size + t130.size) = False := eq_false (Nat.not_lt.2 c6)
  simp only [Option.some.injEq, Prod.mk.injEq] at H
  obtain ⟨rfl, rfl, rfl, rfl⟩ := H
  go_enter Try.func16, Try.ntmps16
  try go_wp2_with (first | ((with_reducible refine gate_dst (N := 8) rfl ?_); refine be_ (N := 8) (cs := #[.int .i64 0, .int .i64 0, .int .i64 0, .string (⟨#[]⟩ : ByteArray)]) (t := 26) (h := ?_); intro gb126 hg w7 hbox hb; have BK126 := Aside0.mk (hbox); have GW126 := gw_ HB hg; have GE126 := gw_ HB hg; replace HB := bs_ HB hb; clear hb hbox hg))
  have n0_ := Aside0.mk (blk_drew BK126.out)
  have n1_ := Aside0.mk (below_drew1 HB.out)
  clear BK126
  clear HB
  have BK126 := n0_
  have HB := n1_
  clear n0_ n1_
  refine start_ (n := 10) (S := fun w' => True) (ds := []) #[false, false, false, false, false, false, false, false, false, false] (by kernel_rfl) rfl rfl trivial (fun hHeld => ?_); refine with_tabW calamusref33_Replied.tab1 calamusref33_Replied.bits1 (fun HT_ HW_ => ?_)
  generalize w7.drew = w8 at BK126 HB hHeld ⊢
  refine pp_ (i := 0) (N := some 9) #[true, false, false, false, false, false, false, false, false, false] rfl rfl (any_of HT_.out (by kernel_rfl)) (h := ?_)
  refine pp_ (i := 1) (N := some 10) #[true, true, false, false, false, false, false, false, false, false] rfl rfl (any_of HT_.out (by kernel_rfl)) (h := ?_)
  refine pp_ (i := 2) (N := some 11) #[true, true, true, false, false, false, false, false, false, false] rfl rfl (any_of HT_.out (by kernel_rfl)) (h := ?_)
  refine pp_ (i := 5) (N := some 14) #[true, true, true, false, false, true, false, false, false, false] rfl rfl (any_of HT_.out (by kernel_rfl)) (h := ?_)
  refine join_ (σ := Value) 3 #[true, true, true, true, true, true, true, false, false, false] (fun s_ => [(12, s_), (13, .string (strOfNums y127)), (15, .string t130)]) (fun s_ w' => (Kd.R (Kd.int .u8) 5 w' w.heap.size (fun _ => True) s_ y127) ∧ (w'.heap[gb126]? = some (.cells #[.int .i64 0, .int .i64 0, .int .i64 0, .string (⟨#[]⟩ : ByteArray)] 26 (0, 0))) ∧ (Below w.heap.size w w')) ?_ ?_
  rotate_left
  ·intro hCont
   refine two_ (i := 3) (j := 6) (Ni := some 12) (Nj := some 15) #[true, true, true, true, false, true, false, false, false, false] #[true, true, true, false, false, true, true, false, false, false] rfl rfl rfl rfl (two_of HT_.out (by kernel_rfl)) (by decide) (by decide) (fun K hK => ?_) (fun K hK => ?_)
   ·skip
    refine Kd.R_lit_step (Kd.int .u8) _ 5 ?hg (N := 12) ?hd (xs := ([a2] : List Int)) (inner := [.int .u8 a2]) (ok := fun _ => True) (okp := fun _ => True) ?hr ?hp (fun _ hk => hk) trivial (Below.refl _ _) (Nat.le_refl _) (by simp) ?_; (case hd => rfl); (case hg => rfl); (case hr => first | (go_simp; done) | (go_simp; rfl)); (case hp => exact (Reps.one (show Kd.M (Kd.int .u8) _ _ _ a2 [.int .u8 a2] from rfl) (Reps.none _ _)))
    intro v128 w9 ho10 hb hg_ hnew_
    clear hg_ hnew_
    (first | rw [← Ny127.out] at ho10 | (simp only [Int.reduceToNat] at ho10; rw [← Ny127.out] at ho10))
    have n0_ := Aside0.mk (Kd.R_lower ho10 (below_size (hb_ HB)))
    have n1_ := bb_ BK126 hb
    have n2_ := bs_ HB hb
    clear BK126
    clear HB
    have HO129 := n0_
    have BK126 := n1_
    have HB := n2_
    clear n0_ n1_ n2_
    clear hb ho10
    refine hK.out _ _ trivial (fun hHeld => ?_)
    clear hK K
    refine norm_ (a' := ?_) ?_ ?_
    rotate_left
    ·show Act.put _ (some 12) _ = _
     simp only [Act.put, List.setIfInBounds_toArray, List.set_cons_zero, List.set_cons_succ, i64_w, i32_w]
     rfl
    refine two_ (i := 4) (j := 6) (Ni := some 13) (Nj := some 15) #[true, true, true, true, true, true, false, false, false, false] #[true, true, true, true, false, true, true, false, false, false] rfl rfl rfl rfl (two_of HT_.out (by kernel_rfl)) (by decide) (by decide) (fun K hK => ?_) (fun K hK => ?_)
    ·skip
     have hcv11 := own_string (P := Try.prog) Try.underlying84 Try.underlying5 Try.underlying9 (Kd.own_of_R HO129.out)
     refine value_ (w1 := ?_) (v := ?_) (by rfl) rfl ?_ ?_
     rotate_left 2
     ·go_simp
      constructor
      ·rfl
      ·rfl
     clear hcv11
     refine hK.out _ _ trivial (fun hHeld => ?_)
     clear hK K
     refine norm_ (a' := ?_) ?_ ?_
     rotate_left
     ·show Act.put _ (some 13) _ = _
      simp only [Act.put, List.setIfInBounds_toArray, List.set_cons_zero, List.set_cons_succ, i64_w, i32_w]
      rfl
     refine one_ (i := 6) (N := some 15) #[true, true, true, true, true, true, true, false, false, false] rfl rfl (one_of HT_.out (by kernel_rfl)) (by decide) (fun K hK => ?_)
     refine goes_ Try.func53 (by kernel_rfl) rfl #[.int .i64 a3] (by rfl) rfl rfl (by (try simp only [List.map_toArray, List.map_cons, List.map_nil]); first | done | rfl | (simp only [List.length_drop, List.length_take]; rfl)) ?_
     with_reducible refine (calamusref01_Num.calls a3 t130 _ A5.out).mono ?_
     rintro e w12 ⟨rfl, hb⟩
     refine ⟨_, rfl, ?_⟩
     have n0_ := Aside0.mk (Kd.R_below (rw_ HO129.out) hb)
     have n1_ := bb_ BK126 hb
     have n2_ := bs_ HB hb
     clear HO129
     clear BK126
     clear HB
     have HO129 := n0_
     have BK126 := n1_
     have HB := n2_
     clear n0_ n1_ n2_
     (try clear hb)
     (try clear hb2)
     (try clear hk)
     (try clear hi)
     refine hK.out _ _ trivial (fun hHeld => ?_)
     clear hK K
     refine norm_ (a' := ?_) ?_ ?_
     rotate_left
     ·show Act.put _ (some 15) _ = _
      simp only [Act.put, List.setIfInBounds_toArray, List.set_cons_zero, List.set_cons_succ, i64_w, i32_w]
      rfl
     exact norm_ (by simp only [putAll, Act.put, List.setIfInBounds_toArray, List.set_cons_zero, List.set_cons_succ]) (hCont (v128) _ ⟨(rw_ HO129.out), (bw_ BK126.out), (hb_ HB)⟩)
    ·skip
     refine goes_ Try.func53 (by kernel_rfl) rfl #[.int .i64 a3] (by rfl) rfl rfl (by (try simp only [List.map_toArray, List.map_cons, List.map_nil]); first | done | rfl | (simp only [List.length_drop, List.length_take]; rfl)) ?_
     with_reducible refine (calamusref01_Num.calls a3 t130 _ A5.out).mono ?_
     rintro e w11 ⟨rfl, hb⟩
     refine ⟨_, rfl, ?_⟩
     have n0_ := Aside0.mk (Kd.R_below (rw_ HO129.out) hb)
     have n1_ := bb_ BK126 hb
     have n2_ := bs_ HB hb
     clear HO129
     clear BK126
     clear HB
     have HO129 := n0_
     have BK126 := n1_
     have HB := n2_
     clear n0_ n1_ n2_
     (try clear hb)
     (try clear hb2)
     (try clear hk)
     (try clear hi)
     refine hK.out _ _ trivial (fun hHeld => ?_)
     clear hK K
     refine norm_ (a' := ?_) ?_ ?_
     rotate_left
     ·show Act.put _ (some 15) _ = _
      simp only [Act.put, List.setIfInBounds_toArray, List.set_cons_zero, List.set_cons_succ, i64_w, i32_w]
      rfl
     refine one_ (i := 4) (N := some 13) #[true, true, true, true, true, true, true, false, false, false] rfl rfl (one_of HT_.out (by kernel_rfl)) (by decide) (fun K hK => ?_)
     have hcv12 := own_string (P := Try.prog) Try.underlying84 Try.underlying5 Try.underlying9 (Kd.own_of_R HO129.out)
     refine value_ (w1 := ?_) (v := ?_) (by rfl) rfl ?_ ?_
     rotate_left 2
     ·go_simp
      constructor
      ·rfl
      ·rfl
     clear hcv12
     refine hK.out _ _ trivial (fun hHeld => ?_)
     clear hK K
     refine norm_ (a' := ?_) ?_ ?_
     rotate_left
     ·show Act.put _ (some 13) _ = _
      simp only [Act.put, List.setIfInBounds_toArray, List.set_cons_zero, List.set_cons_succ, i64_w, i32_w]
      rfl
     exact norm_ (by simp only [putAll, Act.put, List.setIfInBounds_toArray, List.set_cons_zero, List.set_cons_succ]) (hCont (v128) _ ⟨(rw_ HO129.out), (bw_ BK126.out), (hb_ HB)⟩)
   ·skip
    refine goes_ Try.func53 (by kernel_rfl) rfl #[.int .i64 a3] (by rfl) rfl rfl (by (try simp only [List.map_toArray, List.map_cons, List.map_nil]); first | done | rfl | (simp only [List.length_drop, List.length_take]; rfl)) ?_
    with_reducible refine (calamusref01_Num.calls a3 t130 _ A5.out).mono ?_
    rintro e w9 ⟨rfl, hb⟩
    refine ⟨_, rfl, ?_⟩
    have n0_ := bb_ BK126 hb
    have n1_ := bs_ HB hb
    clear BK126
    clear HB
    have BK126 := n0_
    have HB := n1_
    clear n0_ n1_
    (try clear hb)
    (try clear hb2)
    (try clear hk)
    (try clear hi)
    refine hK.out _ _ trivial (fun hHeld => ?_)
    clear hK K
    refine norm_ (a' := ?_) ?_ ?_
    rotate_left
    ·show Act.put _ (some 15) _ = _
     simp only [Act.put, List.setIfInBounds_toArray, List.set_cons_zero, List.set_cons_succ, i64_w, i32_w]
     rfl
    refine one_ (i := 3) (N := some 12) #[true, true, true, true, false, true, true, false, false, false] rfl rfl (one_of HT_.out (by kernel_rfl)) (by decide) (fun K hK => ?_)
    refine Kd.R_lit_step (Kd.int .u8) _ 5 ?hg (N := 12) ?hd (xs := ([a2] : List Int)) (inner := [.int .u8 a2]) (ok := fun _ => True) (okp := fun _ => True) ?hr ?hp (fun _ hk => hk) trivial (Below.refl _ _) (Nat.le_refl _) (by simp) ?_; (case hd => rfl); (case hg => rfl); (case hr => first | (go_simp; done) | (go_simp; rfl)); (case hp => exact (Reps.one (show Kd.M (Kd.int .u8) _ _ _ a2 [.int .u8 a2] from rfl) (Reps.none _ _)))
    intro v128 w10 ho11 hb hg_ hnew_
    clear hg_ hnew_
    (first | rw [← Ny127.out] at ho11 | (simp only [Int.reduceToNat] at ho11; rw [← Ny127.out] at ho11))
    have n0_ := Aside0.mk (Kd.R_lower ho11 (below_size (hb_ HB)))
    have n1_ := bb_ BK126 hb
    have n2_ := bs_ HB hb
    clear BK126
    clear HB
    have HO129 := n0_
    have BK126 := n1_
    have HB := n2_
    clear n0_ n1_ n2_
    clear hb ho11
    refine hK.out _ _ trivial (fun hHeld => ?_)
    clear hK K
    refine norm_ (a' := ?_) ?_ ?_
    rotate_left
    ·show Act.put _ (some 12) _ = _
     simp only [Act.put, List.setIfInBounds_toArray, List.set_cons_zero, List.set_cons_succ, i64_w, i32_w]
     rfl
    refine one_ (i := 4) (N := some 13) #[true, true, true, true, true, true, true, false, false, false] rfl rfl (one_of HT_.out (by kernel_rfl)) (by decide) (fun K hK => ?_)
    have hcv12 := own_string (P := Try.prog) Try.underlying84 Try.underlying5 Try.underlying9 (Kd.own_of_R HO129.out)
    refine value_ (w1 := ?_) (v := ?_) (by rfl) rfl ?_ ?_
    rotate_left 2
    ·go_simp
     constructor
     ·rfl
     ·rfl
    clear hcv12
    refine hK.out _ _ trivial (fun hHeld => ?_)
    clear hK K
    refine norm_ (a' := ?_) ?_ ?_
    rotate_left
    ·show Act.put _ (some 13) _ = _
     simp only [Act.put, List.setIfInBounds_toArray, List.set_cons_zero, List.set_cons_succ, i64_w, i32_w]
     rfl
    exact norm_ (by simp only [putAll, Act.put, List.setIfInBounds_toArray, List.set_cons_zero, List.set_cons_succ]) (hCont (v128) _ ⟨(rw_ HO129.out), (bw_ BK126.out), (hb_ HB)⟩)
  rintro v128 w13 ⟨h0_, h1_, h2_⟩
  have n0_ : Aside0 (Kd.R (Kd.int .u8) 5 w13 w.heap.size (fun _ => True) v128 y127) := ⟨h0_⟩
  have n1_ : Aside0 (w13.heap[gb126]? = some (.cells #[.int .i64 0, .int .i64 0, .int .i64 0, .string (⟨#[]⟩ : ByteArray)] 26 (0, 0))) := ⟨h1_⟩
  have n2_ : Aside0 (Below w.heap.size w w13) := ⟨h2_⟩
  clear BK126
  clear HB
  clear h0_ h1_ h2_
  have HO129 := n0_
  have BK126 := n1_
  have HB := n2_
  clear n0_ n1_ n2_
  have hHeld := trivial
  refine norm_ (a' := ?_) ?_ ?_
  rotate_left
  ·simp only [putAll, Act.put, List.setIfInBounds_toArray, List.set_cons_zero, List.set_cons_succ]
   rfl
  refine pp_ (i := 7) (N := some 16) #[true, true, true, true, true, true, true, true, false, false] rfl rfl (any_of HT_.out (by kernel_rfl)) (h := ?_)
  refine pp_ (i := 8) (N := some 17) #[true, true, true, true, true, true, true, true, true, false] rfl rfl (any_of HT_.out (by kernel_rfl)) (h := ?_)
  refine one_ (i := 9) (N := none) #[true, true, true, true, true, true, true, true, true, true] rfl rfl (one_of HT_.out (by kernel_rfl)) (by decide) (fun K hK => ?_)
  have hs14 : w13.cell? ⟨gb126, 0, none⟩ = some (.int .i64 0) := (blk_cell BK126.out 0).trans rfl
  have hfs14 := blk_frozen BK126.out 0
  have hs15 : w13.cell? ⟨gb126, 1, none⟩ = some (.int .i64 0) := (blk_cell BK126.out 1).trans rfl
  have hfs15 := blk_frozen BK126.out 1
  have hs16 : w13.cell? ⟨gb126, 2, none⟩ = some (.int .i64 0) := (blk_cell BK126.out 2).trans rfl
  have hfs16 := blk_frozen BK126.out 2
  have hs17 : w13.cell? ⟨gb126, 3, none⟩ = some (.string (⟨#[]⟩ : ByteArray)) := (blk_cell BK126.out 3).trans rfl
  have hfs17 := blk_frozen BK126.out 3
  refine skip_ (w1 := ?_) (by rfl) rfl ?_ ?_
  rotate_left
  ·go_simp
   rfl
  refine hK.out _ _ trivial (fun hHeld => ?_)
  clear hK K
  refine done_ (done_of HT_.out (by kernel_rfl)) ?_
  try go_wp2
  refine bodyPost_ret (results_cell_row rfl _ _ gb126 26 #[.int .i64 2, .int .i64 a0, .int .i64 a1, .string ((strOfNums y127) ++ t130)] (0, 0) _ rfl (bp_ BK126.out) Try.underlying26 rfl (by kernel_rfl)) rfl ?_
  exact ⟨er_, hb_ HB⟩
 ·rw [if_neg c6] at H
  exact absurd H (by simp)

/-! ### record_Right: function 20 -/
def record_Right.f (a0_0 : Int) (a0_1 : Int) (a0_2 : Int) (a0_3 : ByteArray) : Option (Bool) := if a0_0 = 1 then (if a0_1 ≥ 1 then (if a0_1 ≤ 2147483647 then (if a0_2 ≥ 0 then (if a0_2 ≤ 2147483647 then (some (decide ((a0_3.size : Int) ≤ 64))) else (some false)) else (some false)) else (some false)) else (some false)) else (if a0_0 = 2 then (if a0_1 ≥ 1 then (if a0_1 ≤ 2147483647 then (if a0_2 ≥ 0 then (if a0_2 ≤ 2147483647 then (some (decide ((a0_3.size : Int) ≤ 64))) else (some false)) else (some false)) else (some false)) else (some false)) else (some false))
set_option maxHeartbeats 8000000 in
set_option maxRecDepth 100000 in
theorem record_Right.calls (a0_0 : Int) (a0_1 : Int) (a0_2 : Int) (a0_3 : ByteArray) (r : Bool) (w : World) (h : record_Right.f a0_0 a0_1 a0_2 a0_3 = some r) :
  Calls Try.prog 20 #[.agg #[.int .i64 a0_0, .int .i64 a0_1, .int .i64 a0_2, .string a0_3]] w fun e w' => e = .returned (.bool r) ∧ Below w.heap.size w w' := by
 have hu24 := Try.underlying24
 have HB := Aside0.mk (Below.refl w.heap.size w)
 have H : (if a0_0 = 1 then (if a0_1 ≥ 1 then (if a0_1 ≤ 2147483647 then (if a0_2 ≥ 0 then (if a0_2 ≤ 2147483647 then (some (decide ((a0_3.size : Int) ≤ 64))) else (some false)) else (some false)) else (some false)) else (some false)) else (if a0_0 = 2 then (if a0_1 ≥ 1 then (if a0_1 ≤ 2147483647 then (if a0_2 ≥ 0 then (if a0_2 ≤ 2147483647 then (some (decide ((a0_3.size : Int) ≤ 64))) else (some false)) else (some false)) else (some false)) else (some false)) else (some false))) = some r := h
 clear h
 by_cases c2 : a0_0 = 1
 ·rw [if_pos c2] at H
  have c2b0 : (a0_0 == 1) = true := beq_iff_eq.mpr c2
  have c2b1 : (a0_0 != 1) = false := bne_eq_false_iff_eq.mpr c2
  clear c2
  by_cases c3 : a0_1 ≥ 1
  ·rw [if_pos c3] at H
   have c3b0 : decide (1 ≤ a0_1) = true := decide_eq_true c3
   clear c3
   by_cases c4 : a0_1 ≤ 2147483647
   ·rw [if_pos c4] at H
    have c4b0 : decide (a0_1 ≤ 2147483647) = true := decide_eq_true c4
    clear c4
    by_cases c5 : a0_2 ≥ 0
    ·rw [if_pos c5] at H
     have c5b0 : decide (0 ≤ a0_2) = true := decide_eq_true c5
     clear c5
     by_cases c6 : a0_2 ≤ 2147483647
     ·rw [if_pos c6] at H
      have c6b0 : decide (a0_2 ≤ 2147483647) = true := decide_eq_true c6
      clear c6
      obtain rfl := Option.some.inj H
      go_enter Try.func20, Try.ntmps20
      go_wp2_with (first | ((with_reducible refine gate_dst (N := 1) rfl ?_); (try (refine gate_guard (by rfl) ?_; dsimp only)); refine be_ (N := 1) (cs := #[.int .i64 a0_0, .int .i64 a0_1, .int .i64 a0_2, .string a0_3]) (t := 24) (h := ?_); intro gb131 hg w7 hbox hb; have BK131 := Aside0.mk (hbox); have GW131 := gw_ HB hg; have GE131 := gw_ HB hg; replace HB := bs_ HB hb; clear hb hbox hg; obtain ⟨hcz8_0, hcz8_1, hcz8_2, hcz8_3, hfz8_0, hfz8_1, hfz8_2, hfz8_3⟩ := bc4_ BK131))
      go_ret
      exact ⟨er_, hb_ HB⟩
     ·rw [if_neg c6] at H
      have c6b0 : decide (a0_2 ≤ 2147483647) = false := decide_eq_false c6
      clear c6
      obtain rfl := Option.some.inj H
      go_enter Try.func20, Try.ntmps20
      go_wp2_with (first | ((with_reducible refine gate_dst (N := 1) rfl ?_); (try (refine gate_guard (by rfl) ?_; dsimp only)); refine be_ (N := 1) (cs := #[.int .i64 a0_0, .int .i64 a0_1, .int .i64 a0_2, .string a0_3]) (t := 24) (h := ?_); intro gb131 hg w9 hbox hb; have BK131 := Aside0.mk (hbox); have GW131 := gw_ HB hg; have GE131 := gw_ HB hg; replace HB := bs_ HB hb; clear hb hbox hg; obtain ⟨hcz10_0, hcz10_1, hcz10_2, hcz10_3, hfz10_0, hfz10_1, hfz10_2, hfz10_3⟩ := bc4_ BK131))
      go_ret
      exact ⟨er_, hb_ HB⟩
    ·rw [if_neg c5] at H
     have c5b0 : decide (0 ≤ a0_2) = false := decide_eq_false c5
     clear c5
     obtain rfl := Option.some.inj H
     go_enter Try.func20, Try.ntmps20
     go_wp2_with (first | ((with_reducible refine gate_dst (N := 1) rfl ?_); (try (refine gate_guard (by rfl) ?_; dsimp only)); refine be_ (N := 1) (cs := #[.int .i64 a0_0, .int .i64 a0_1, .int .i64 a0_2, .string a0_3]) (t := 24) (h := ?_); intro gb131 hg w11 hbox hb; have BK131 := Aside0.mk (hbox); have GW131 := gw_ HB hg; have GE131 := gw_ HB hg; replace HB := bs_ HB hb; clear hb hbox hg; obtain ⟨hcz12_0, hcz12_1, hcz12_2, hcz12_3, hfz12_0, hfz12_1, hfz12_2, hfz12_3⟩ := bc4_ BK131))
     go_ret
     exact ⟨er_, hb_ HB⟩
   ·rw [if_neg c4] at H
    have c4b0 : decide (a0_1 ≤ 2147483647) = false := decide_eq_false c4
    clear c4
    obtain rfl := Option.some.inj H
    go_enter Try.func20, Try.ntmps20
    go_wp2_with (first | ((with_reducible refine gate_dst (N := 1) rfl ?_); (try (refine gate_guard (by rfl) ?_; dsimp only)); refine be_ (N := 1) (cs := #[.int .i64 a0_0, .int .i64 a0_1, .int .i64 a0_2, .string a0_3]) (t := 24) (h := ?_); intro gb131 hg w13 hbox hb; have BK131 := Aside0.mk (hbox); have GW131 := gw_ HB hg; have GE131 := gw_ HB hg; replace HB := bs_ HB hb; clear hb hbox hg; obtain ⟨hcz14_0, hcz14_1, hcz14_2, hcz14_3, hfz14_0, hfz14_1, hfz14_2, hfz14_3⟩ := bc4_ BK131))
    go_ret
    exact ⟨er_, hb_ HB⟩
  ·rw [if_neg c3] at H
   have c3b0 : decide (1 ≤ a0_1) = false := decide_eq_false c3
   clear c3
   obtain rfl := Option.some.inj H
   go_enter Try.func20, Try.ntmps20
   go_wp2_with (first | ((with_reducible refine gate_dst (N := 1) rfl ?_); (try (refine gate_guard (by rfl) ?_; dsimp only)); refine be_ (N := 1) (cs := #[.int .i64 a0_0, .int .i64 a0_1, .int .i64 a0_2, .string a0_3]) (t := 24) (h := ?_); intro gb131 hg w15 hbox hb; have BK131 := Aside0.mk (hbox); have GW131 := gw_ HB hg; have GE131 := gw_ HB hg; replace HB := bs_ HB hb; clear hb hbox hg; obtain ⟨hcz16_0, hcz16_1, hcz16_2, hcz16_3, hfz16_0, hfz16_1, hfz16_2, hfz16_3⟩ := bc4_ BK131))
   go_ret
   exact ⟨er_, hb_ HB⟩
 ·rw [if_neg c2] at H
  have c2b0 : (a0_0 == 1) = false := beq_eq_false_iff_ne.mpr c2
  have c2b1 : (a0_0 != 1) = true := bne_iff_ne.mpr c2
  by_cases c17 : a0_0 = 2
  ·rw [if_pos c17] at H
   have c17b0 : (a0_0 == 2) = true := beq_iff_eq.mpr c17
   have c17b1 : (a0_0 != 2) = false := bne_eq_false_iff_eq.mpr c17
   clear c17
   by_cases c18 : a0_1 ≥ 1
   ·rw [if_pos c18] at H
    have c18b0 : decide (1 ≤ a0_1) = true := decide_eq_true c18
    clear c18
    by_cases c19 : a0_1 ≤ 2147483647
    ·rw [if_pos c19] at H
     have c19b0 : decide (a0_1 ≤ 2147483647) = true := decide_eq_true c19
     clear c19
     by_cases c20 : a0_2 ≥ 0
     ·rw [if_pos c20] at H
      have c20b0 : decide (0 ≤ a0_2) = true := decide_eq_true c20
      clear c20
      by_cases c21 : a0_2 ≤ 2147483647
      ·rw [if_pos c21] at H
       have c21b0 : decide (a0_2 ≤ 2147483647) = true := decide_eq_true c21
       clear c21
       obtain rfl := Option.some.inj H
       go_enter Try.func20, Try.ntmps20
       go_wp2_with (first | ((with_reducible refine gate_dst (N := 1) rfl ?_); (try (refine gate_guard (by rfl) ?_; dsimp only)); refine be_ (N := 1) (cs := #[.int .i64 a0_0, .int .i64 a0_1, .int .i64 a0_2, .string a0_3]) (t := 24) (h := ?_); intro gb131 hg w22 hbox hb; have BK131 := Aside0.mk (hbox); have GW131 := gw_ HB hg; have GE131 := gw_ HB hg; replace HB := bs_ HB hb; clear hb hbox hg; obtain ⟨hcz23_0, hcz23_1, hcz23_2, hcz23_3, hfz23_0, hfz23_1, hfz23_2, hfz23_3⟩ := bc4_ BK131))
       go_ret
       exact ⟨er_, hb_ HB⟩
      ·rw [if_neg c21] at H
       have c21b0 : decide (a0_2 ≤ 2147483647) = false := decide_eq_false c21
       clear c21
       obtain rfl := Option.some.inj H
       go_enter Try.func20, Try.ntmps20
       go_wp2_with (first | ((with_reducible refine gate_dst (N := 1) rfl ?_); (try (refine gate_guard (by rfl) ?_; dsimp only)); refine be_ (N := 1) (cs := #[.int .i64 a0_0, .int .i64 a0_1, .int .i64 a0_2, .string a0_3]) (t := 24) (h := ?_); intro gb131 hg w24 hbox hb; have BK131 := Aside0.mk (hbox); have GW131 := gw_ HB hg; have GE131 := gw_ HB hg; replace HB := bs_ HB hb; clear hb hbox hg; obtain ⟨hcz25_0, hcz25_1, hcz25_2, hcz25_3, hfz25_0, hfz25_1, hfz25_2, hfz25_3⟩ := bc4_ BK131))
       go_ret
       exact ⟨er_, hb_ HB⟩
     ·rw [if_neg c20] at H
      have c20b0 : decide (0 ≤ a0_2) = false := decide_eq_false c20
      clear c20
      obtain rfl := Option.some.inj H
      go_enter Try.func20, Try.ntmps20
      go_wp2_with (first | ((with_reducible refine gate_dst (N := 1) rfl ?_); (try (refine gate_guard (by rfl) ?_; dsimp only)); refine be_ (N := 1) (cs := #[.int .i64 a0_0, .int .i64 a0_1, .int .i64 a0_2, .string a0_3]) (t := 24) (h := ?_); intro gb131 hg w26 hbox hb; have BK131 := Aside0.mk (hbox); have GW131 := gw_ HB hg; have GE131 := gw_ HB hg; replace HB := bs_ HB hb; clear hb hbox hg; obtain ⟨hcz27_0, hcz27_1, hcz27_2, hcz27_3, hfz27_0, hfz27_1, hfz27_2, hfz27_3⟩ := bc4_ BK131))
      go_ret
      exact ⟨er_, hb_ HB⟩
    ·rw [if_neg c19] at H
     have c19b0 : decide (a0_1 ≤ 2147483647) = false := decide_eq_false c19
     clear c19
     obtain rfl := Option.some.inj H
     go_enter Try.func20, Try.ntmps20
     go_wp2_with (first | ((with_reducible refine gate_dst (N := 1) rfl ?_); (try (refine gate_guard (by rfl) ?_; dsimp only)); refine be_ (N := 1) (cs := #[.int .i64 a0_0, .int .i64 a0_1, .int .i64 a0_2, .string a0_3]) (t := 24) (h := ?_); intro gb131 hg w28 hbox hb; have BK131 := Aside0.mk (hbox); have GW131 := gw_ HB hg; have GE131 := gw_ HB hg; replace HB := bs_ HB hb; clear hb hbox hg; obtain ⟨hcz29_0, hcz29_1, hcz29_2, hcz29_3, hfz29_0, hfz29_1, hfz29_2, hfz29_3⟩ := bc4_ BK131))
     go_ret
     exact ⟨er_, hb_ HB⟩
   ·rw [if_neg c18] at H
    have c18b0 : decide (1 ≤ a0_1) = false := decide_eq_false c18
    clear c18
    obtain rfl := Option.some.inj H
    go_enter Try.func20, Try.ntmps20
    go_wp2_with (first | ((with_reducible refine gate_dst (N := 1) rfl ?_); (try (refine gate_guard (by rfl) ?_; dsimp only)); refine be_ (N := 1) (cs := #[.int .i64 a0_0, .int .i64 a0_1, .int .i64 a0_2, .string a0_3]) (t := 24) (h := ?_); intro gb131 hg w30 hbox hb; have BK131 := Aside0.mk (hbox); have GW131 := gw_ HB hg; have GE131 := gw_ HB hg; replace HB := bs_ HB hb; clear hb hbox hg; obtain ⟨hcz31_0, hcz31_1, hcz31_2, hcz31_3, hfz31_0, hfz31_1, hfz31_2, hfz31_3⟩ := bc4_ BK131))
    go_ret
    exact ⟨er_, hb_ HB⟩
  ·rw [if_neg c17] at H
   have c17b0 : (a0_0 == 2) = false := beq_eq_false_iff_ne.mpr c17
   have c17b1 : (a0_0 != 2) = true := bne_iff_ne.mpr c17
   obtain rfl := Option.some.inj H
   go_enter Try.func20, Try.ntmps20
   go_wp2_with (first | ((with_reducible refine gate_dst (N := 1) rfl ?_); (try (refine gate_guard (by rfl) ?_; dsimp only)); refine be_ (N := 1) (cs := #[.int .i64 a0_0, .int .i64 a0_1, .int .i64 a0_2, .string a0_3]) (t := 24) (h := ?_); intro gb131 hg w32 hbox hb; have BK131 := Aside0.mk (hbox); have GW131 := gw_ HB hg; have GE131 := gw_ HB hg; replace HB := bs_ HB hb; clear hb hbox hg; obtain ⟨hcz33_0, hcz33_1, hcz33_2, hcz33_3, hfz33_0, hfz33_1, hfz33_2, hfz33_3⟩ := bc4_ BK131))
   go_ret
   exact ⟨er_, hb_ HB⟩

/-! ### crc_bytes: function 82, by hand (crc.bytes.lean) -/
def sumByte (a : Int) (i : Nat) : Int := a / 2 ^ (8 * i) % 256
def bArr (a : Int) (k : Nat) : Array Value := #[.int .u8 (if 0 < k then sumByte a 0 else 0), .int .u8 (if 1 < k then sumByte a 1 else 0), .int .u8 (if 2 < k then sumByte a 2 else 0), .int .u8 (if 3 < k then sumByte a 3 else 0)]
def crc_bytes.f (a0 : Int) : Option ByteArray := some (strOfNums [sumByte a0 0, sumByte a0 1, sumByte a0 2, sumByte a0 3])
theorem crc_bytes_string {P : Program} {w : World} {src dst e t : TypeId} {g : Nat} {a b c d : Int} (hs : P.underlying src = some (.slice e)) (he : P.underlying e = some (.int .u8)) (hd : P.underlying dst = some .string)
  (h : w.heap[g]? = some (.cells #[.int .u8 a, .int .u8 b, .int .u8 c, .int .u8 d] t (0, 0))) : (convert src dst (.slice (some ⟨g, 0, none⟩) 4 4)).run P w = .ok (.string (strOfNums [a, b, c, d])) w := by
 have hr := run_convert_bytes_arg (P := P) w src e hs he g 0 4 4 [a, b, c, d] rfl (fun i hi => by
  rw [Nat.zero_add, blk_cell h i]
  match i, hi with
  | 0, _ => rfl
  | 1, _ => rfl
  | 2, _ => rfl
  | 3, _ => rfl) dst hd
 rw [hr]
set_option maxHeartbeats 4000000 in
set_option maxRecDepth 100000 in
theorem crc_bytes.calls (a0 : Int) (r : ByteArray) (w : World) (h : crc_bytes.f a0 = some r) :
  Calls Try.prog 82 #[.int .i64 a0] w fun e w' => e = .returned (.string r) ∧ Below w.heap.size w w' := by
 have HB := Aside0.mk (Below.refl w.heap.size w)
 obtain rfl := Option.some.inj h
 clear h
 go_enter Try.func82, Try.ntmps82
 go_wp2_with (first | ((with_reducible refine gate_dst (N := 3) rfl ?_); refine be_ (N := 3) (cs := bArr a0 0) (t := 142) (h := ?_); intro g1 hg w2 hbox hb; have B1 := Aside0.mk hbox; have G1 := gw_ HB hg; replace HB := bs_ HB hb; clear hb hbox hg))
 go_loopw [5] (fun n wr => ∃ k : Nat, k ≤ 4 ∧ n = .int .i64 k ∧ Aside0 (wr.heap[g1]? = some (.cells (bArr a0 k) 142 (0, 0))) ∧ Aside0 (Below w.heap.size w wr)) (fun n _ => 4 - (intOf n).toNat)
 case atStart => exact ⟨0, by decide, rfl, B1, HB⟩
 case round =>
  clear B1 HB
  obtain ⟨k, hk, rfl, B1, HB⟩ := hrel
  by_cases hlt : k < 4
  ·have e0 : ∀ j : Nat, sumByte a0 j = a0 / 2 ^ (8 * j) % 256 := fun _ => rfl
   have hm : k = 0 ∨ k = 1 ∨ k = 2 ∨ k = 3 := by omega
   obtain ⟨h0, h1, h2, h3, f0, f1, f2, f3⟩ := bc4_ B1
   have E0 := Aside0.mk e0
   clear e0
   rcases hm with rfl | rfl | rfl | rfl
   ·go_wp2
    go_roundw
    case rel => exact ⟨1, by decide, rfl, ⟨by simpa [bArr, sumByte] using blk_set B1.out 0 (.int .u8 (sumByte a0 0))⟩, ⟨below_set HB.out G1.out⟩⟩
    case measure => simp [intOf]
   ·go_wp2
    go_roundw
    case rel => exact ⟨2, by decide, rfl, ⟨by simpa [bArr, sumByte] using blk_set B1.out 1 (.int .u8 (sumByte a0 1))⟩, ⟨below_set HB.out G1.out⟩⟩
    case measure => simp [intOf]
   ·go_wp2
    go_roundw
    case rel => exact ⟨3, by decide, rfl, ⟨by simpa [bArr, sumByte] using blk_set B1.out 2 (.int .u8 (sumByte a0 2))⟩, ⟨below_set HB.out G1.out⟩⟩
    case measure => simp [intOf]
   ·go_wp2
    go_roundw
    case rel => exact ⟨4, by decide, rfl, ⟨by simpa [bArr, sumByte] using blk_set B1.out 3 (.int .u8 (sumByte a0 3))⟩, ⟨below_set HB.out G1.out⟩⟩
    case measure => simp [intOf]
  ·obtain rfl : k = 4 := by omega
   have hcs := crc_bytes_string (P := Try.prog) (dst := 9) Try.underlying84 Try.underlying5 Try.underlying9 B1.out
   go_wp2
   go_ret
   exact ⟨rfl, HB.out⟩

/-! ### crc_run: function 109, by hand (crc.run.lean) -/
/-- A step of a register. -/
def cst (r : Int) : Int := if Go.bits .and .u32 r 1 = 1 then Go.bits .xor .u32 (r / 2) 3988292384 else r / 2
def cstn : Nat → Int → Int
 | 0, r => r
 | n + 1, r => cst (cstn n r)
def hv (n : Nat) : Int := cstn 4 n
def hArr (k : Nat) : Array Value := ((List.range 16).map (fun i => Value.int .u32 (if i < k then hv i else 0))).toArray
theorem blk_setCells (g : Nat) (t : TypeId) : ∀ (vs pre post : List Value) (w : World), w.heap[g]? = some (.cells (pre ++ post).toArray t (0, 0)) → vs.length ≤ post.length → (w.setCells g pre.length vs).heap[g]? = some (.cells (pre ++ vs ++ post.drop vs.length).toArray t (0, 0))
 | [], pre, post, w, h, _ => by simpa [World.setCells] using h
 | v :: r, pre, [], w, h, hl => by simp at hl
 | v :: r, pre, p :: post, w, h, hl => by
  have h1 := blk_set h pre.length v
  have e : (pre ++ p :: post).toArray.setIfInBounds pre.length v = ((pre ++ [v]) ++ post).toArray := by
   apply Array.ext'
   simp
  rw [e] at h1
  have ih := blk_setCells g t r (pre ++ [v]) post _ h1 (by simp at hl; omega)
  simpa [World.setCells] using ih
theorem blk_setCells0 {g : Nat} {t : TypeId} {cs vs : Array Value} {w : World} (h : w.heap[g]? = some (.cells cs t (0, 0))) (hl : vs.size = cs.size) : (w.setCells g 0 vs.toList).heap[g]? = some (.cells vs t (0, 0)) := by
 have := blk_setCells g t vs.toList [] cs.toList w (by simpa using h) (by simp [hl])
 rw [List.drop_of_length_le (by simp [hl]), List.append_nil] at this
 simpa using this
theorem blk_there {g n : Nat} {t : TypeId} {cs : Array Value} {w : World} (h : w.heap[g]? = some (.cells cs t (0, 0))) (hn : n = cs.size) : w.there g 0 n := fun j hj => by
 rw [hn] at hj
 rw [Nat.zero_add]
 refine ⟨?_, blk_frozen h j⟩
 rw [blk_cell h j, Array.getElem?_eq_getElem hj]; rfl
theorem below_setCells {w W : World} {g : Nat} (h : Below w.heap.size w W) (hg : w.heap.size ≤ g) : ∀ (vs : List Value) (o : Nat), Below w.heap.size w (W.setCells g o vs) := by
 intro vs
 induction vs generalizing W with
 | nil => intro o; exact h
 | cons v r ih => intro o; exact ih (below_set h hg) (o + 1)
theorem hArr_at (k i : Nat) (h : i < 16) : (hArr k)[i]? = some (.int .u32 (if i < k then hv i else 0)) := by
 unfold hArr
 simp [h]
theorem hArr_set (k : Nat) (h : k < 16) : (hArr k).setIfInBounds k (.int .u32 (cstn 4 k)) = hArr (k + 1) := by
 apply Array.ext'
 unfold hArr
 rw [Array.toList_setIfInBounds]
 apply List.ext_getElem?
 intro i
 by_cases hi : i = k
 ·subst hi
  simp [List.getElem?_set, h, hv]
 ·simp only [List.getElem?_set, List.getElem?_map]
  rw [if_neg (fun e => hi e.symm)]
  by_cases h16 : i < 16
  ·simp [h16]
   by_cases h1 : i < k
   ·simp [h1, show i < k + 1 by omega]
   ·simp [h1, show ¬ i < k + 1 by omega]
  ·simp [h16]
set_option maxHeartbeats 4000000 in
set_option maxRecDepth 100000 in
theorem crc_half (w : World) : Calls Try.prog 117 #[] w fun e w' => e = .returned (.agg (hArr 16)) ∧ Below w.heap.size w w' := by
 have HB := Aside0.mk (Below.refl w.heap.size w)
 go_enter Try.func117, Try.ntmps117
 go_wp2_with (first | ((with_reducible refine gate_dst (N := 0) rfl ?_); refine be_ (N := 0) (cs := hArr 0) (t := 151) (h := ?_); intro g0 hg w1 hbox hb; have B0 := Aside0.mk hbox; have G0 := gw_ HB hg; replace HB := bs_ HB hb; clear hb hbox hg) | ((with_reducible refine gate_dst (N := 1) rfl ?_); refine be_ (N := 1) (cs := hArr 0) (t := 151) (h := ?_); intro g1 hg w2 hbox hb; have B1 := Aside0.mk hbox; have G1 := gw_ HB hg; have NE := ne_ B0 hg; have EN := en_ B0 hg; replace B0 := bb_ B0 hb; replace HB := bs_ HB hb; clear hb hbox hg))
 go_loopw [4] (fun n wr => ∃ k : Nat, k ≤ 16 ∧ n = .int .u32 k ∧ Aside0 (wr.heap[g1]? = some (.cells (hArr k) 151 (0, 0))) ∧ Aside0 (wr.heap[g0]? = some (.cells (hArr 0) 151 (0, 0))) ∧ Aside0 (Below w.heap.size w wr)) (fun n _ => 16 - (intOf n).toNat)
 case atStart => exact ⟨0, by decide, rfl, B1, B0, HB⟩
 case round =>
  clear B1 B0 HB
  obtain ⟨k, hk, rfl, B1, B0, HB⟩ := hrel
  by_cases hlt : k < 16
  ·go_wp2
   go_loop [3, 8] (fun r j => ∃ i : Nat, i ≤ 4 ∧ j = .int .i64 i ∧ r = .int .u32 (cstn i k)) (fun _ j => 4 - (intOf j).toNat)
   case atStart => exact ⟨0, by decide, rfl, rfl⟩
   case round =>
    obtain ⟨i, hi, rfl, rfl⟩ := hrel
    by_cases hi4 : i < 4
    ·obtain ⟨r, hr⟩ : ∃ r : Int, r = cstn i k := ⟨_, rfl⟩
     have hn : cstn (i + 1) k = cst r := by rw [hr]; rfl
     rw [← hr]
     have HN := Aside0.mk hn
     clear hr hn
     by_cases ho : Go.bits .and .u32 r 1 = 1
     ·have b0 : (Go.bits .and .u32 r 1 == 1) = true := beq_iff_eq.mpr ho
      have e : cst r = Go.bits .xor .u32 (r / 2) 3988292384 := if_pos ho
      have E := Aside0.mk e
      clear ho e
      go_wp2
      go_round
      case rel => exact ⟨i + 1, by omega, by go_num, by rw [HN.out, E.out]⟩
      case measure => simp [intOf]; omega
     ·have b0 : (Go.bits .and .u32 r 1 == 1) = false := beq_eq_false_iff_ne.mpr ho
      have e : cst r = r / 2 := if_neg ho
      have E := Aside0.mk e
      clear ho e
      go_wp2
      go_round
      case rel => exact ⟨i + 1, by omega, by go_num, by rw [HN.out, E.out]⟩
      case measure => simp [intOf]; omega
    ·obtain rfl : i = 4 := by omega
     have hc1 := (blk_cell B1.out k).trans (hArr_at k k hlt)
     rw [if_neg (Nat.lt_irrefl _)] at hc1
     have hf1 := blk_frozen B1.out k
     go_wp2
     go_roundw
     case rel => exact ⟨k + 1, by omega, by go_num, ⟨by have h := blk_set B1.out k (.int .u32 (cstn 4 k)); rw [hArr_set k hlt] at h; exact h⟩, ⟨(Below.heap_setCell _ _ _ g0 NE.out).trans B0.out⟩, ⟨below_set HB.out G1.out⟩⟩
     case measure => simp [intOf]; omega
  ·obtain rfl : k = 16 := by omega
   have hu := Try.underlying151
   go_wp2_with (first | ((with_reducible refine gate_dst (N := 23) rfl ?_); refine wpList_load_row rfl 151 (.tmp 1) rfl g1 rfl 151 (hArr 16) (0, 0) _ B1.out hu rfl (by kernel_rfl) ?_) | ((with_reducible refine gate_store (t := 151) (p := 0) (v := .tmp 23) rfl ?_); refine wpList_store_mid rfl 151 (.tmp 0) (.tmp 23) rfl g0 0 (hArr 16) rfl rfl ?ht (by kernel_rfl) (by kernel_rfl) ?_; (case ht => exact blk_there B0.out rfl)))
   refine bodyPost_ret (results_cell_row rfl _ _ g0 151 (hArr 16) (0, 0) _ rfl (blk_setCells0 B0.out rfl) hu rfl (by kernel_rfl)) rfl ?_
   exact ⟨rfl, below_setCells HB.out G0.out _ _⟩
def crcB (r b : Int) : Int :=
 let r1 := Go.bits .xor .u32 r b
 let r2 := Go.bits .xor .u32 (r1 / 16) (hv (Go.bits .and .u32 r1 15).toNat)
 Go.bits .xor .u32 (r2 / 16) (hv (Go.bits .and .u32 r2 15).toNat)
def crc_run.f (a0 : Int) (a1 : ByteArray) : Option Int := if a1.size ≤ 1152921504606846976 then some ((bytesOf a1).foldl crcB a0) else none
theorem and15 (x : Int) : 0 ≤ Go.bits .and .u32 x 15 ∧ Go.bits .and .u32 x 15 < 16 := by
 have h : (BitVec.ofInt 32 x &&& BitVec.ofInt 32 15).toNat ≤ 15 := by
  rw [BitVec.toNat_and]
  exact Nat.and_le_right
 have e : Go.bits .and .u32 x 15 = IntKind.u32.wrap ((BitVec.ofInt 32 x &&& BitVec.ofInt 32 15).toNat) := rfl
 rw [e]
 generalize (BitVec.ofInt 32 x &&& BitVec.ofInt 32 15).toNat = n at h
 rw [show IntKind.u32.wrap (n : Int) = (n : Int) % 4294967296 from rfl]
 omega
theorem fold_snoc (l : List Int) (i : Nat) (h : i < l.length) (a : Int) : (l.take (i + 1)).foldl crcB a = crcB ((l.take i).foldl crcB a) (l.getD i 0) := by
 rw [List.take_succ_eq_append_getElem h, List.foldl_append, List.getD_eq_getElem?_getD, List.getElem?_eq_getElem h]; rfl
set_option maxHeartbeats 4000000 in
set_option maxRecDepth 100000 in
theorem crc_run.calls (a0 : Int) (a1 : ByteArray) (r : Int) (w : World) (h : crc_run.f a0 a1 = some r) :
  Calls Try.prog 109 #[.int .u32 a0, .string a1] w fun e w' => e = .returned (.int .u32 r) ∧ Below w.heap.size w w' := by
 have HB := Aside0.mk (Below.refl w.heap.size w)
 have hh : a1.size ≤ 1152921504606846976 ∧ (bytesOf a1).foldl crcB a0 = r := by
  unfold crc_run.f at h
  by_cases g : a1.size ≤ 1152921504606846976
  ·rw [if_pos g] at h; exact ⟨g, Option.some.inj h⟩
  ·rw [if_neg g] at h; exact absurd h (by simp)
 clear h
 obtain ⟨hsz, rfl⟩ := hh
 go_enter Try.func109, Try.ntmps109
 go_wp2_with (first | (go_at_call 117; (with_reducible refine (crc_half _).mono ?_); rintro e w1 ⟨rfl, hb⟩; replace HB := bs_ HB hb; clear hb) | ((with_reducible refine gate_dst (N := 5) rfl ?_); refine be_ (N := 5) (cs := hArr 0) (t := 151) (h := ?_); intro g1 hg w2 hbox hb; have B1 := Aside0.mk hbox; have G1 := gw_ HB hg; replace HB := bs_ HB hb; clear hb hbox hg) | ((with_reducible refine gate_store (t := 151) (p := 5) (v := .tmp 7) rfl ?_); refine wpList_store_mid rfl 151 (.tmp 5) (.tmp 7) rfl g1 0 (hArr 16) rfl rfl ?ht (by kernel_rfl) (by kernel_rfl) ?_; (case ht => exact blk_there B1.out rfl)))
 have B2 := Aside0.mk (blk_setCells0 (vs := hArr 16) B1.out rfl)
 have HB2 := Aside0.mk (below_setCells HB.out G1.out (hArr 16).toList 0)
 clear B1 HB
 generalize w2.setCells g1 0 (hArr 16).toList = w3 at B2 HB2 ⊢
 go_loop [0, 10] (fun v i => ∃ k : Nat, k ≤ a1.size ∧ i = .int .i64 k ∧ v = .int .u32 (((bytesOf a1).take k).foldl crcB a0)) (fun _ i => a1.size - (intOf i).toNat)
 case atStart => exact ⟨0, Nat.zero_le _, rfl, rfl⟩
 case round =>
  obtain ⟨k, hk, rfl, rfl⟩ := hrel
  by_cases hlt : k < a1.size
  ·obtain ⟨r, hr⟩ : ∃ r : Int, r = ((bytesOf a1).take k).foldl crcB a0 := ⟨_, rfl⟩
   have hn : ((bytesOf a1).take (k + 1)).foldl crcB a0 = crcB r (bt a1 k) := by rw [fold_snoc _ _ (by rw [bytesOf_length]; exact hlt), hr, ← rd_bytesOf]; rfl
   rw [← hr]
   have HN := Aside0.mk hn
   clear hr hn
   have hb := bt_range a1 k
   obtain ⟨b, hbe⟩ : ∃ b : Int, b = bt a1 k := ⟨_, rfl⟩
   have hba : ((a1[k]'hlt).toNat : Int) = b := by rw [hbe]; exact bt_at a1 k (by simpa using hlt)
   rw [← hbe] at HN hb
   have hbm : b % 4294967296 = b := by omega
   have p1 := and15 (Go.bits .xor .u32 r b)
   obtain ⟨r1, hr1⟩ : ∃ r1 : Int, r1 = Go.bits .xor .u32 r b := ⟨_, rfl⟩
   rw [← hr1] at p1
   obtain ⟨r2, hr2⟩ : ∃ r2 : Int, r2 = Go.bits .xor .u32 (r1 / 16) (hv (Go.bits .and .u32 r1 15).toNat) := ⟨_, rfl⟩
   have p2 := and15 r2
   have c1 := (blk_cell B2.out (Go.bits .and .u32 r1 15).toNat).trans (hArr_at 16 _ (by omega))
   rw [if_pos (by omega)] at c1
   have c2 := (blk_cell B2.out (Go.bits .and .u32 r2 15).toNat).trans (hArr_at 16 _ (by omega))
   rw [if_pos (by omega)] at c2
   have R1 := Aside0.mk hr1
   have R2 := Aside0.mk hr2
   have e1 := hr1.symm
   have e2 := hr2.symm
   have NF := Aside0.mk (show crcB r b = Go.bits .xor .u32 (r2 / 16) (hv (Go.bits .and .u32 r2 15).toNat) by rw [hr2, hr1]; rfl)
   clear hr1 hr2 hbe
   go_wp2
   go_round
   case rel => exact ⟨k + 1, by omega, by go_num, by rw [HN.out, NF.out]⟩
   case measure => simp [intOf]; omega
  ·obtain rfl : k = a1.size := by omega
   go_wp2
   go_ret
   exact ⟨by rw [List.take_of_length_le (by rw [bytesOf_length]; omega)]; rfl, HB2.out⟩

/-! ### crc_Sum: function 83 -/
def crc_Sum.l0 : Nat → Int → List ByteArray → Int → Int → Option (Int)
 | 0, _, _, _, _ => none
 | k + 1, x3, x6, x7, x8 => if x8 < x7 then (if 0 ≤ x8 then (if x8 < (x6.length : Int) then ((crc_run.f x3 (rdOf ByteArray.empty x6 x8)).bind fun t133 => (crc_Sum.l0 k t133 x6 x7 (wrap64 (x8 + 1)))) else (none)) else (none)) else (some (wrap64 (Go.bits .xor .u32 x3 4294967295)))
def crc_Sum.f (k : Nat) (l0 : List ByteArray) : Option (Int) := crc_Sum.l0 k 4294967295 l0 (l0.length : Int) 0
theorem crc_Sum.mono_l : ∀ k, (∀ y0 y1 y2 y3, LeO (crc_Sum.l0 k y0 y1 y2 y3) (crc_Sum.l0 (k + 1) y0 y1 y2 y3))
 | 0 => fun _ _ _ _ r h => by simp [crc_Sum.l0] at h
 | k + 1 => by
  have ih0 := crc_Sum.mono_l k
  ·intro y0 y1 y2 y3
   unfold crc_Sum.l0
   repeat' first
   | (with_reducible exact ih0 _ _ _ _)
   | (with_reducible exact LeO.refl _)
   | (with_reducible exact LeO.none _)
   | (with_reducible refine LeO.ite ?_ ?_)
   | (with_reducible refine LeO.bind ?_ (fun _ => ?_))
   | exact ih0 _ _ _ _
   | exact LeO.none _
   | refine LeO.ite ?_ ?_
   | refine LeO.bind ?_ (fun _ => ?_)
theorem crc_Sum.mono : ∀ a0 k, LeO (crc_Sum.f k a0) (crc_Sum.f (k + 1) a0) := by
 intro a0 k
 have ih0 := crc_Sum.mono_l k
 unfold crc_Sum.f
 repeat' first
   | (with_reducible exact ih0 _ _ _ _)
   | (with_reducible exact LeO.refl _)
   | (with_reducible exact LeO.none _)
   | (with_reducible refine LeO.ite ?_ ?_)
   | (with_reducible refine LeO.bind ?_ (fun _ => ?_))
   | exact ih0 _ _ _ _
   | exact LeO.none _
   | refine LeO.ite ?_ ?_
   | refine LeO.bind ?_ (fun _ => ?_)
set_option maxHeartbeats 8000000 in
set_option maxRecDepth 100000 in
theorem crc_Sum.calls (k : Nat) (A0 : Option Addr) (c0 : Nat) (l0 : List ByteArray) (r : Int) (w : World) (hr0 : Kd.C Kd.string w A0 l0.length l0) (hc0 : l0.length ≤ c0) (h : crc_Sum.f k l0 = some r) :
  Calls Try.prog 83 #[.slice A0 l0.length c0] w fun e w' => e = .returned (.int .i64 r) ∧ Below w.heap.size w w' := by
 have HR0 := Aside0.mk hr0
 have HC0 := Aside0.mk hc0
 clear hr0 hc0
 have HB := Aside0.mk (Below.refl w.heap.size w)
 have H : (crc_Sum.l0 k 4294967295 l0 (l0.length : Int) 0) = some r := h
 clear h
 have H' := Aside0.mk H
 clear H
 go_enter Try.func83, Try.ntmps83
 go_wp2
 go_loopg [3, 8] k (fun kq v3 v8 w' => ∃ (x3_1 : Int) (x8_1 : Int), v3 = .int .u32 x3_1 ∧ v8 = .int .i64 x8_1 ∧ Aside0 (crc_Sum.l0 kq x3_1 l0 (l0.length : Int) x8_1 = some r) ∧ Aside0 (kq ≤ k) ∧ Aside0 (Below w.heap.size w w'))
 case atStart => exact ⟨(4294967295), (0), es_, es_, H', ⟨Nat.le_refl _⟩, ⟨hb_ HB⟩⟩
 case round =>
  clear H'
  obtain ⟨x3_1, x8_1, rfl, rfl, HA, HK1, HB⟩ := hrel
  cases gk with
  | zero => exact absurd HA.out (by simp [crc_Sum.l0])
  | succ k1 =>
   have H := HA.out
   clear HA
   simp only [crc_Sum.l0] at H
   by_cases c2 : x8_1 < (l0.length : Int)
   ·rw [if_pos c2] at H
    have c2b0 : decide (x8_1 < (l0.length : Int)) = true := decide_eq_true c2
    clear c2
    by_cases c3 : 0 ≤ x8_1
    ·rw [if_pos c3] at H
     have c3b0 : decide (0 ≤ x8_1) = true := decide_eq_true c3
     clear c3
     by_cases c4 : x8_1 < (l0.length : Int)
     ·rw [if_pos c4] at H
      have c4b0 : decide (x8_1 < (l0.length : Int)) = true := decide_eq_true c4
      clear c4
      replace H := Option.bind_eq_some_iff.mp H
      obtain ⟨t133, A50, H⟩ := H
      replace H : (crc_Sum.l0 k1 t133 l0 (l0.length : Int) (wrap64 (x8_1 + 1))) = some r := H
      have A5 := Aside0.mk A50
      clear A50
      have H' := Aside0.mk H
      clear H
      have p132 : 0 ≤ (x8_1 : Int) := of_decide_eq_true as_
      have q132 : x8_1 < (l0.length : Int) := of_decide_eq_true as_
      obtain ⟨ad132, e132, hx132_0⟩ := Kd.at_string HR0.out x8_1 p132 q132
      cases e132
      replace hx132_0 := cb_ HB hx132_0
      replace p132 := eq_true p132
      replace q132 := eq_true q132
      go_wp2_with (first | ((with_reducible refine gate_callee (f := 109) rfl ?_); refine ge_ (some 14) rfl rfl Try.func109 (by kernel_rfl) rfl #[.int .u32 x3_1, .string (rdOf ByteArray.empty l0 x8_1)] rfl (h := ?_); (with_reducible refine (crc_run.calls x3_1 (rdOf ByteArray.empty l0 x8_1) t133 _ A5.out).mono ?_); rintro e w6 ⟨rfl, hb⟩; refine ⟨_, rfl, ?_⟩; replace HB := bs_ HB hb; (try clear hb); (try clear hb2); (try clear hk); (try clear hi)))
      go_roundg k1
      case measure => have := HK1.out; omega
      case rel => exact ⟨(t133), (wrap64 (x8_1 + 1)), es_, es_, H', ⟨by have := HK1.out; omega⟩, ⟨hb_ HB⟩⟩
     ·rw [if_neg c4] at H
      exact absurd H (by simp)
    ·rw [if_neg c3] at H
     exact absurd H (by simp)
   ·rw [if_neg c2] at H
    have c2b0 : decide (x8_1 < (l0.length : Int)) = false := decide_eq_false c2
    clear c2
    obtain rfl := Option.some.inj H
    go_wp2
    go_ret
    exact ⟨er_, hb_ HB⟩

/-! ### crc_Seal: function 56 -/
def crc_Seal.f (k : Nat) (a0 : ByteArray) : Option (ByteArray) := (crc_Sum.f k (([a0] : List ByteArray))).bind fun t137 => ((crc_bytes.f t137).bind fun t138 => (if a0.size + t138.size ≤ 9223372036854775807 then (some (a0 ++ t138)) else (none)))
theorem crc_Seal.mono : ∀ a0 k, LeO (crc_Seal.f k a0) (crc_Seal.f (k + 1) a0) := by
 intro a0 k
 unfold crc_Seal.f
 repeat' first
   | (with_reducible exact crc_Sum.mono _ _)
   | (with_reducible exact LeO.refl _)
   | (with_reducible exact LeO.none _)
   | (with_reducible refine LeO.ite ?_ ?_)
   | (with_reducible refine LeO.bind ?_ (fun _ => ?_))
   | exact crc_Sum.mono _ _
   | exact LeO.none _
   | refine LeO.ite ?_ ?_
   | refine LeO.bind ?_ (fun _ => ?_)
set_option maxHeartbeats 8000000 in
set_option maxRecDepth 100000 in
theorem crc_Seal.calls (k : Nat) (a0 : ByteArray) (r : ByteArray) (w : World) (h : crc_Seal.f k a0 = some r) :
  Calls Try.prog 56 #[.string a0] w fun e w' => e = .returned (.string r) ∧ Below w.heap.size w w' := by
 have HB := Aside0.mk (Below.refl w.heap.size w)
 have H : ((crc_Sum.f k (([a0] : List ByteArray))).bind fun t137 => ((crc_bytes.f t137).bind fun t138 => (if a0.size + t138.size ≤ 9223372036854775807 then (some (a0 ++ t138)) else (none)))) = some r := h
 clear h
 obtain ⟨y134, hy134⟩ : ∃ y_ : List ByteArray, y_ = (([a0] : List ByteArray)) := ⟨_, rfl⟩
 replace H : ((crc_Sum.f k y134).bind fun t137 => ((crc_bytes.f t137).bind fun t138 => (if a0.size + t138.size ≤ 9223372036854775807 then (some (a0 ++ t138)) else (none)))) = some r := th_ H hy134
 have Ny134 := Aside0.mk hy134
 clear hy134
 replace H := Option.bind_eq_some_iff.mp H
 obtain ⟨t137, A20, H⟩ := H
 replace H : ((crc_bytes.f t137).bind fun t138 => (if a0.size + t138.size ≤ 9223372036854775807 then (some (a0 ++ t138)) else (none))) = some r := H
 have A2 := Aside0.mk A20
 clear A20
 replace H := Option.bind_eq_some_iff.mp H
 obtain ⟨t138, A30, H⟩ := H
 replace H : (if a0.size + t138.size ≤ 9223372036854775807 then (some (a0 ++ t138)) else (none)) = some r := H
 have A3 := Aside0.mk A30
 clear A30
 by_cases c4 : a0.size + t138.size ≤ 9223372036854775807
 ·rw [if_pos c4] at H
  have c4b0 := eq_true c4
  try (have c4b0x := c4b0; simp only [ByteArray.size_extract, Nat.min_self] at c4b0x)
  have c4b1 : decide (a0.size + t138.size ≤ 9223372036854775807) = true := decide_eq_true c4
  try have c4b2 : (9223372036854775807 < a0.size + t138.size) = False := eq_false (Nat.not_lt.2 c4)
  obtain rfl := Option.some.inj H
  go_enter Try.func56, Try.ntmps56
  go_wp2_with (first | ((with_reducible refine gate_dst (N := 5) rfl ?_); refine Kd.R_lit Kd.string _ 9 ?hg (N := 5) ?hd (xs := ([a0] : List ByteArray)) (inner := [.string a0]) (ok := fun _ => True) (okp := fun _ => True) ?hr ?hp (fun _ hk => hk) trivial (Below.refl _ _) (Nat.le_refl _) (by simp) ?_; (case hd => rfl); (case hg => rfl); (case hr => first | (go_simp; done) | (go_simp; rfl)); (case hp => exact (Reps.one (show Kd.M Kd.string _ _ _ a0 [.string a0] from rfl) (Reps.none _ _))); intro v135 w5 ho6 hb hg_ hnew_; clear hg_ hnew_; (first | rw [← Ny134.out] at ho6 | (simp only [Int.reduceToNat] at ho6; rw [← Ny134.out] at ho6)); have HO136 := Aside0.mk (Kd.R_lower ho6 (below_size (hb_ HB))); replace HB := bs_ HB hb; clear hb ho6; obtain ⟨Ao7, co7, eo7⟩ := Kd.R_slice HO136.out; subst eo7) | ((with_reducible refine gate_callee (f := 83) rfl ?_); refine ge_ (some 6) rfl rfl Try.func83 (by kernel_rfl) rfl #[.slice Ao7 y134.length co7] rfl (h := ?_); (with_reducible refine (crc_Sum.calls k _ _ y134 t137 _ ?side1 ?side2 A2.out).mono ?_); (case side1 => repeat (first | exact (Kd.R_reads' HO136.out).2.2 | (with_reducible refine Kd.C_alloc ?_ _) | (with_reducible refine Kd.C_drewN ?_ _) | (with_reducible refine Kd.C_drew ?_))); (case side2 => exact (Kd.R_reads' HO136.out).2.1); rintro e w8 ⟨rfl, hb⟩; refine ⟨_, rfl, ?_⟩; replace HO136 := Aside0.mk (Kd.R_below (rw_ HO136.out) hb); replace HB := bs_ HB hb; (try clear hb); (try clear hb2); (try clear hk); (try clear hi)) | ((with_reducible refine gate_callee (f := 82) rfl ?_); refine ge_ (some 7) rfl rfl Try.func82 (by kernel_rfl) rfl #[.int .i64 t137] rfl (h := ?_); (with_reducible refine (crc_bytes.calls t137 t138 _ A3.out).mono ?_); rintro e w9 ⟨rfl, hb⟩; refine ⟨_, rfl, ?_⟩; replace HO136 := Aside0.mk (Kd.R_below (rw_ HO136.out) hb); replace HB := bs_ HB hb; (try clear hb); (try clear hb2); (try clear hk); (try clear hi)))
  go_ret
  exact ⟨er_, hb_ HB⟩
 ·rw [if_neg c4] at H
  exact absurd H (by simp)

/-! ### code_Text: function 57 -/
def code_Text.f (k : Nat) (a0 : ByteArray) : Option (ByteArray) := if (a0.size : Int) > 2147483647 then (some (⟨#[]⟩ : ByteArray)) else ((code_Num.f k (a0.size : Int)).bind fun t139 => (if t139.size + a0.size ≤ 9223372036854775807 then (some (t139 ++ a0)) else (none)))
theorem code_Text.mono : ∀ a0 k, LeO (code_Text.f k a0) (code_Text.f (k + 1) a0) := by
 intro a0 k
 unfold code_Text.f
 repeat' first
   | (with_reducible exact code_Num.mono _ _)
   | (with_reducible exact LeO.refl _)
   | (with_reducible exact LeO.none _)
   | (with_reducible refine LeO.ite ?_ ?_)
   | (with_reducible refine LeO.bind ?_ (fun _ => ?_))
   | exact code_Num.mono _ _
   | exact LeO.none _
   | refine LeO.ite ?_ ?_
   | refine LeO.bind ?_ (fun _ => ?_)
set_option maxHeartbeats 8000000 in
set_option maxRecDepth 100000 in
theorem code_Text.calls (k : Nat) (a0 : ByteArray) (r : ByteArray) (w : World) (h : code_Text.f k a0 = some r) :
  Calls Try.prog 57 #[.string a0] w fun e w' => e = .returned (.string r) ∧ Below w.heap.size w w' := by
 have HB := Aside0.mk (Below.refl w.heap.size w)
 have H : (if (a0.size : Int) > 2147483647 then (some (⟨#[]⟩ : ByteArray)) else ((code_Num.f k (a0.size : Int)).bind fun t139 => (if t139.size + a0.size ≤ 9223372036854775807 then (some (t139 ++ a0)) else (none)))) = some r := h
 clear h
 by_cases c2 : (a0.size : Int) > 2147483647
 ·rw [if_pos c2] at H
  have c2b0 : decide (2147483647 < (a0.size : Int)) = true := decide_eq_true c2
  have c2b1 : decide (2147483647 < a0.size) = true := decide_eq_true (by omega)
  clear c2
  obtain rfl := Option.some.inj H
  go_enter Try.func57, Try.ntmps57
  go_wp2
  go_ret
  exact ⟨er_, hb_ HB⟩
 ·rw [if_neg c2] at H
  have c2b0 : decide (2147483647 < (a0.size : Int)) = false := decide_eq_false c2
  have c2b1 : decide (2147483647 < a0.size) = false := decide_eq_false (by omega)
  clear c2
  replace H := Option.bind_eq_some_iff.mp H
  obtain ⟨t139, A30, H⟩ := H
  replace H : (if t139.size + a0.size ≤ 9223372036854775807 then (some (t139 ++ a0)) else (none)) = some r := H
  have A3 := Aside0.mk A30
  clear A30
  by_cases c4 : t139.size + a0.size ≤ 9223372036854775807
  ·rw [if_pos c4] at H
   have c4b0 := eq_true c4
   try (have c4b0x := c4b0; simp only [ByteArray.size_extract, Nat.min_self] at c4b0x)
   have c4b1 : decide (t139.size + a0.size ≤ 9223372036854775807) = true := decide_eq_true c4
   try have c4b2 : (9223372036854775807 < t139.size + a0.size) = False := eq_false (Nat.not_lt.2 c4)
   obtain rfl := Option.some.inj H
   go_enter Try.func57, Try.ntmps57
   go_wp2_with (first | ((with_reducible refine gate_callee (f := 52) rfl ?_); refine ge_ (some 8) rfl rfl Try.func52 (by kernel_rfl) rfl #[.int .i64 (a0.size : Int)] rfl (h := ?_); (with_reducible refine (code_Num.calls k (a0.size : Int) t139 _ A3.out).mono ?_); rintro e w5 ⟨rfl, hb⟩; refine ⟨_, rfl, ?_⟩; replace HB := bs_ HB hb; (try clear hb); (try clear hb2); (try clear hk); (try clear hi)))
   go_ret
   exact ⟨er_, hb_ HB⟩
  ·rw [if_neg c4] at H
   exact absurd H (by simp)

end Go.Proofs.Ytealbonfaebikaa.PRecordMakes
