/- Of the law calamus/calamuslaw11.TreeKeeps: each function as a plain Lean function, with a proof that the call comes to it; the row. By wip/tpl/own_print.py. Conditions: none but the row's own. -/
import Derived.Test.YtkiokimpblimcaaOTreeKeepsx0
import Derived.Test.YtkiokimpblimcaaOTreeKeepsx2
import Derived.Test.YtkiokimpblimcaaOTreeKeepsx3
namespace Go.Proofs.Ytkiokimpblimcaa.PTreeKeeps
open Go.RowKit Go.Proofs.YtkiokimpblimcaaW.PrintWords Go.Proofs.YtkiokimpblimcaaW.PrintLast Go.Proofs.YtkiokimpblimcaaW.PrintMore
attribute [local go_sem] max2_int min2_int max_two min_two max_three min_three max_four min_four   -- for this text's walks alone
set_option linter.unusedVariables false
set_option linter.unusedSimpArgs false

/-! ### change_Diff: function 15 -/
def change_Diff.j0 : Nat → ByteArray → ByteArray → Bool → Option (Int × ByteArray × ByteArray)
 | 0, _, _, _ => none
 | k + 1, x0, x1, x19 => if x19 = true then (some (0, (⟨#[]⟩ : ByteArray), (⟨#[]⟩ : ByteArray))) else ((change_front.f k x0 x1).bind fun t118 => (if 0 ≤ t118 then (if t118 ≤ (x0.size : Int) then (if t118 ≤ (x1.size : Int) then ((change_back.f k (x0.extract (t118 : Int).toNat x0.size) (x1.extract (t118 : Int).toNat x1.size)).bind fun t119 => (if 0 ≤ (wrap64 (((x0.extract (t118 : Int).toNat x0.size).size : Int) - t119)) then (if (wrap64 (((x0.extract (t118 : Int).toNat x0.size).size : Int) - t119)) ≤ ((x0.extract (t118 : Int).toNat x0.size).size : Int) then (if 0 ≤ (wrap64 (((x1.extract (t118 : Int).toNat x1.size).size : Int) - t119)) then (if (wrap64 (((x1.extract (t118 : Int).toNat x1.size).size : Int) - t119)) ≤ ((x1.extract (t118 : Int).toNat x1.size).size : Int) then (some (t118, (x0.extract (t118 : Int).toNat x0.size).extract 0 ((wrap64 (((x0.extract (t118 : Int).toNat x0.size).size : Int) - t119)) : Int).toNat, (x1.extract (t118 : Int).toNat x1.size).extract 0 ((wrap64 (((x1.extract (t118 : Int).toNat x1.size).size : Int) - t119)) : Int).toNat)) else (none)) else (none)) else (none)) else (none))) else (none)) else (none)) else (none)))
def change_Diff.f (k : Nat) (a0 : ByteArray) (a1 : ByteArray) : Option (Int × ByteArray × ByteArray) := if a0.toList = a1.toList then (change_Diff.j0 k a0 a1 true) else ((utf_Valid.f k a0).bind fun t116 => (if t116 = true then ((utf_Valid.f k a1).bind fun t117 => (change_Diff.j0 k a0 a1 (!t117))) else (change_Diff.j0 k a0 a1 true)))
theorem change_Diff.mono_l : ∀ k, (∀ y0 y1 y2, LeO (change_Diff.j0 k y0 y1 y2) (change_Diff.j0 (k + 1) y0 y1 y2))
 | 0 => fun _ _ _ r h => by simp [change_Diff.j0] at h
 | k + 1 => by
  have ih0 := change_Diff.mono_l k
  ·intro y0 y1 y2
   unfold change_Diff.j0
   repeat' first
   | (with_reducible exact ih0 _ _ _)
   | (with_reducible exact change_back.mono _ _ _)
   | (with_reducible exact change_front.mono _ _ _)
   | (with_reducible exact utf_Valid.mono _ _)
   | (with_reducible exact LeO.refl _)
   | (with_reducible exact LeO.none _)
   | (with_reducible refine LeO.ite ?_ ?_)
   | (with_reducible refine LeO.bind ?_ (fun _ => ?_))
   | exact ih0 _ _ _
   | exact change_back.mono _ _ _
   | exact change_front.mono _ _ _
   | exact utf_Valid.mono _ _
   | exact LeO.none _
   | refine LeO.ite ?_ ?_
   | refine LeO.bind ?_ (fun _ => ?_)
theorem change_Diff.mono : ∀ a0 a1 k, LeO (change_Diff.f k a0 a1) (change_Diff.f (k + 1) a0 a1) := by
 intro a0 a1 k
 have ih0 := change_Diff.mono_l k
 unfold change_Diff.f
 repeat' first
   | (with_reducible exact ih0 _ _ _)
   | (with_reducible exact change_back.mono _ _ _)
   | (with_reducible exact change_front.mono _ _ _)
   | (with_reducible exact utf_Valid.mono _ _)
   | (with_reducible exact LeO.refl _)
   | (with_reducible exact LeO.none _)
   | (with_reducible refine LeO.ite ?_ ?_)
   | (with_reducible refine LeO.bind ?_ (fun _ => ?_))
   | exact ih0 _ _ _
   | exact change_back.mono _ _ _
   | exact change_front.mono _ _ _
   | exact utf_Valid.mono _ _
   | exact LeO.none _
   | refine LeO.ite ?_ ?_
   | refine LeO.bind ?_ (fun _ => ?_)
def change_Diff.T4 : Bool × List (List Nat × List Nat) := (true, [([], []), ([], []), ([0, 1], [0, 1]), ([], []), ([], []), ([3, 4], [3, 4]), ([2, 0, 1, 2], [0, 2]), ([5, 6, 0, 1, 2, 3, 4, 5, 6], [3, 5])])
def change_Diff.B4 : List Nat := [0, 0, 3, 0, 0, 24, 7, 127]
theorem change_Diff.tab4 : rtab .any (opsOf Try.f15 4) = change_Diff.T4 := by kernel_rfl
theorem change_Diff.bits4 : waitsOk change_Diff.T4.2 change_Diff.B4 = true := by kernel_rfl
def change_Diff.T6 : Bool × List (List Nat × List Nat) := (true, [([], []), ([], []), ([], []), ([2], [2]), ([], []), ([3, 4], [3, 4]), ([1, 5], [1, 5]), ([], []), ([], []), ([8], [8]), ([], []), ([9, 10], [9, 10]), ([7, 11], [7, 11]), ([0, 6, 12], [0, 6, 12]), ([13, 0, 1, 2, 3, 4, 5, 6, 7, 8, 9, 10, 11, 12, 13], [13])])
def change_Diff.B6 : List Nat := [0, 0, 0, 4, 0, 28, 62, 0, 0, 256, 0, 1792, 3968, 8191, 16383]
theorem change_Diff.tab6 : rtab .any (opsOf Try.f15 6) = change_Diff.T6 := by kernel_rfl
theorem change_Diff.bits6 : waitsOk change_Diff.T6.2 change_Diff.B6 = true := by kernel_rfl
set_option maxHeartbeats 8000000 in
set_option maxRecDepth 100000 in
theorem change_Diff.calls (k : Nat) (a0 : ByteArray) (a1 : ByteArray) (r1 : Int) (r2 : ByteArray) (r3 : ByteArray) (w : World) (h : change_Diff.f k a0 a1 = some (r1, r2, r3)) :
  Calls Try.prog 15 #[.string a0, .string a1] w fun e w' => e = .returned (.agg #[.int .i64 r1, .string r2, .string r3]) ∧ Below w.heap.size w w' := by
 have hu24 := Try.underlying24
 have HB := Aside0.mk (Below.refl w.heap.size w)
 have H : (if a0.toList = a1.toList then (change_Diff.j0 k a0 a1 true) else ((utf_Valid.f k a0).bind fun t116 => (if t116 = true then ((utf_Valid.f k a1).bind fun t117 => (change_Diff.j0 k a0 a1 (!t117))) else (change_Diff.j0 k a0 a1 true)))) = some (r1, r2, r3) := h
 clear h
 have HC3 := Aside0.mk H
 clear H
 go_enter Try.func15, Try.ntmps15
 go_upto_region 1 with (first | ((with_reducible refine gate_dst (N := 4) rfl ?_); refine be_ (N := 4) (cs := #[.int .i64 0, .string (⟨#[]⟩ : ByteArray), .string (⟨#[]⟩ : ByteArray)]) (t := 24) (h := ?_); intro gb115 hg w4 hbox hb; have BK115 := Aside0.mk (hbox); have GW115 := gw_ HB hg; have GE115 := gw_ HB hg; replace HB := bs_ HB hb; clear hb hbox hg))
 (try simp only [Act.put, List.setIfInBounds_toArray, List.set_cons_zero, List.set_cons_succ])
 go_cut [19] (fun v19 wc => ∃ (kq : Nat) (x19_2 : Bool), v19 = .bool x19_2 ∧ Aside0 (change_Diff.j0 kq a0 a1 x19_2 = some (r1, r2, r3)) ∧ Aside0 (kq ≤ k) ∧ Aside0 (wc.heap[gb115]? = some (.cells #[.int .i64 0, .string (⟨#[]⟩ : ByteArray), .string (⟨#[]⟩ : ByteArray)] 24 (0, 0))) ∧ Aside0 (Below w.heap.size w wc))
 case first =>
  have H := HC3.out
  clear HC3
  by_cases c5 : a0.toList = a1.toList
  ·rw [if_pos c5] at H
   have c5b0 : (a0.toList == a1.toList) = true := beq_iff_eq.mpr c5
   have c5b1 : (a0.toList != a1.toList) = false := bne_eq_false_iff_eq.mpr c5
   clear c5
   (first | rw [c5b0] | (simp only [i64_w, i32_w]; rw [c5b0]) | skip)
   have H' := Aside0.mk H
   clear H
   go_wp2
   go_meet
   case rel => exact ⟨_, (true), es_, H', ⟨by first | omega | exact Nat.le_refl _⟩, ⟨bw_ BK115.out⟩, ⟨hb_ HB⟩⟩
  ·rw [if_neg c5] at H
   have c5b0 : (a0.toList == a1.toList) = false := beq_eq_false_iff_ne.mpr c5
   have c5b1 : (a0.toList != a1.toList) = true := bne_iff_ne.mpr c5
   (first | rw [c5b0] | (simp only [i64_w, i32_w]; rw [c5b0]) | skip)
   replace H := Option.bind_eq_some_iff.mp H
   obtain ⟨t116, A60, H⟩ := H
   replace H : (if t116 = true then ((utf_Valid.f k a1).bind fun t117 => (change_Diff.j0 k a0 a1 (!t117))) else (change_Diff.j0 k a0 a1 true)) = some (r1, r2, r3) := H
   have A6 := Aside0.mk A60
   clear A60
   by_cases c7 : t116 = true
   ·subst c7
    have H1 : ((utf_Valid.f k a1).bind fun t117 => (change_Diff.j0 k a0 a1 (!t117))) = some (r1, r2, r3) := by rw [if_pos rfl] at H; exact H
    clear H
    have H := H1
    clear H1
    replace H := Option.bind_eq_some_iff.mp H
    obtain ⟨t117, A80, H⟩ := H
    replace H : (change_Diff.j0 k a0 a1 (!t117)) = some (r1, r2, r3) := H
    have A8 := Aside0.mk A80
    clear A80
    have H' := Aside0.mk H
    clear H
    go_wp2_with (first | (go_at_call 26; (with_reducible refine (utf_Valid.calls k a0 true _ A6.out).mono ?_); rintro e w9 ⟨rfl, hb⟩; replace BK115 := bb_ BK115 hb; replace HB := bs_ HB hb; (try clear hb); (try clear hb2); (try clear hk); (try clear hi)) | (go_at_call 26; (with_reducible refine (utf_Valid.calls k a1 t117 _ A8.out).mono ?_); rintro e w10 ⟨rfl, hb⟩; replace BK115 := bb_ BK115 hb; replace HB := bs_ HB hb; (try clear hb); (try clear hb2); (try clear hk); (try clear hi)))
    go_meet
    case rel => exact ⟨_, (!t117), es_, H', ⟨by first | omega | exact Nat.le_refl _⟩, ⟨bw_ BK115.out⟩, ⟨hb_ HB⟩⟩
   ·replace c7 := Bool.eq_false_iff.mpr c7
    subst c7
    have H1 : (change_Diff.j0 k a0 a1 true) = some (r1, r2, r3) := by rw [if_neg (show ¬ (false = true) by decide)] at H; exact H
    clear H
    have H := H1
    clear H1
    have H' := Aside0.mk H
    clear H
    go_wp2_with (first | (go_at_call 26; (with_reducible refine (utf_Valid.calls k a0 false _ A6.out).mono ?_); rintro e w11 ⟨rfl, hb⟩; replace BK115 := bb_ BK115 hb; replace HB := bs_ HB hb; (try clear hb); (try clear hb2); (try clear hk); (try clear hi)))
    go_meet
    case rel => exact ⟨_, (true), es_, H', ⟨by first | omega | exact Nat.le_refl _⟩, ⟨bw_ BK115.out⟩, ⟨hb_ HB⟩⟩
 case rest =>
  clear HC3
  obtain ⟨kq, x19_2, rfl, HA, HJ2, BK115, HB⟩ := hcut
  cases kq with
  | zero => exact absurd HA.out (by simp [change_Diff.j0])
  | succ kj2 =>
   have H := HA.out
   clear HA
   simp only [change_Diff.j0] at H
   by_cases c12 : x19_2 = true
   ·subst c12
    have H1 : (some (0, (⟨#[]⟩ : ByteArray), (⟨#[]⟩ : ByteArray))) = some (r1, r2, r3) := by rw [if_pos rfl] at H; exact H
    clear H
    have H := H1
    clear H1
    simp only [Option.some.injEq, Prod.mk.injEq] at H
    obtain ⟨rfl, rfl, rfl⟩ := H
    obtain ⟨hcz13_0, hcz13_1, hcz13_2, hfz13_0, hfz13_1, hfz13_2⟩ := bc3_ BK115
    go_wp2
    refine bodyPost_ret (results_cell_row rfl _ _ gb115 24 #[.int .i64 0, .string (⟨#[]⟩ : ByteArray), .string (⟨#[]⟩ : ByteArray)] (0, 0) _ rfl (bp_ BK115.out) Try.underlying24 rfl (by kernel_rfl)) rfl ?_
    exact ⟨er_, hb_ HB⟩
   ·replace c12 := Bool.eq_false_iff.mpr c12
    subst c12
    have H1 : ((change_front.f kj2 a0 a1).bind fun t118 => (if 0 ≤ t118 then (if t118 ≤ (a0.size : Int) then (if t118 ≤ (a1.size : Int) then ((change_back.f kj2 (a0.extract (t118 : Int).toNat a0.size) (a1.extract (t118 : Int).toNat a1.size)).bind fun t119 => (if 0 ≤ (wrap64 (((a0.extract (t118 : Int).toNat a0.size).size : Int) - t119)) then (if (wrap64 (((a0.extract (t118 : Int).toNat a0.size).size : Int) - t119)) ≤ ((a0.extract (t118 : Int).toNat a0.size).size : Int) then (if 0 ≤ (wrap64 (((a1.extract (t118 : Int).toNat a1.size).size : Int) - t119)) then (if (wrap64 (((a1.extract (t118 : Int).toNat a1.size).size : Int) - t119)) ≤ ((a1.extract (t118 : Int).toNat a1.size).size : Int) then (some (t118, (a0.extract (t118 : Int).toNat a0.size).extract 0 ((wrap64 (((a0.extract (t118 : Int).toNat a0.size).size : Int) - t119)) : Int).toNat, (a1.extract (t118 : Int).toNat a1.size).extract 0 ((wrap64 (((a1.extract (t118 : Int).toNat a1.size).size : Int) - t119)) : Int).toNat)) else (none)) else (none)) else (none)) else (none))) else (none)) else (none)) else (none))) = some (r1, r2, r3) := by rw [if_neg (show ¬ (false = true) by decide)] at H; exact H
    clear H
    have H := H1
    clear H1
    replace H := Option.bind_eq_some_iff.mp H
    obtain ⟨t118, A140, H⟩ := H
    replace H : (if 0 ≤ t118 then (if t118 ≤ (a0.size : Int) then (if t118 ≤ (a1.size : Int) then ((change_back.f kj2 (a0.extract (t118 : Int).toNat a0.size) (a1.extract (t118 : Int).toNat a1.size)).bind fun t119 => (if 0 ≤ (wrap64 (((a0.extract (t118 : Int).toNat a0.size).size : Int) - t119)) then (if (wrap64 (((a0.extract (t118 : Int).toNat a0.size).size : Int) - t119)) ≤ ((a0.extract (t118 : Int).toNat a0.size).size : Int) then (if 0 ≤ (wrap64 (((a1.extract (t118 : Int).toNat a1.size).size : Int) - t119)) then (if (wrap64 (((a1.extract (t118 : Int).toNat a1.size).size : Int) - t119)) ≤ ((a1.extract (t118 : Int).toNat a1.size).size : Int) then (some (t118, (a0.extract (t118 : Int).toNat a0.size).extract 0 ((wrap64 (((a0.extract (t118 : Int).toNat a0.size).size : Int) - t119)) : Int).toNat, (a1.extract (t118 : Int).toNat a1.size).extract 0 ((wrap64 (((a1.extract (t118 : Int).toNat a1.size).size : Int) - t119)) : Int).toNat)) else (none)) else (none)) else (none)) else (none))) else (none)) else (none)) else (none)) = some (r1, r2, r3) := H
    have A14 := Aside0.mk A140
    clear A140
    by_cases c15 : 0 ≤ t118
    ·rw [if_pos c15] at H
     have c15b0 := eq_true c15
     try (have c15b0x := c15b0; simp only [ByteArray.size_extract, Nat.min_self] at c15b0x)
     have c15b1 : decide (0 ≤ t118) = true := decide_eq_true c15
     clear c15
     by_cases c16 : t118 ≤ (a0.size : Int)
     ·rw [if_pos c16] at H
      have c16b0 := eq_true c16
      try (have c16b0x := c16b0; simp only [ByteArray.size_extract, Nat.min_self] at c16b0x)
      have c16b1 : decide (t118 ≤ (a0.size : Int)) = true := decide_eq_true c16
      clear c16
      have c17b0 := eq_true (of_decide_eq_true as_ : 0 ≤ t118)
      by_cases c18 : t118 ≤ (a1.size : Int)
      ·rw [if_pos c18] at H
       have c18b0 := eq_true c18
       try (have c18b0x := c18b0; simp only [ByteArray.size_extract, Nat.min_self] at c18b0x)
       have c18b1 : decide (t118 ≤ (a1.size : Int)) = true := decide_eq_true c18
       clear c18
       replace H := Option.bind_eq_some_iff.mp H
       obtain ⟨t119, A190, H⟩ := H
       replace H : (if 0 ≤ (wrap64 (((a0.extract (t118 : Int).toNat a0.size).size : Int) - t119)) then (if (wrap64 (((a0.extract (t118 : Int).toNat a0.size).size : Int) - t119)) ≤ ((a0.extract (t118 : Int).toNat a0.size).size : Int) then (if 0 ≤ (wrap64 (((a1.extract (t118 : Int).toNat a1.size).size : Int) - t119)) then (if (wrap64 (((a1.extract (t118 : Int).toNat a1.size).size : Int) - t119)) ≤ ((a1.extract (t118 : Int).toNat a1.size).size : Int) then (some (t118, (a0.extract (t118 : Int).toNat a0.size).extract 0 ((wrap64 (((a0.extract (t118 : Int).toNat a0.size).size : Int) - t119)) : Int).toNat, (a1.extract (t118 : Int).toNat a1.size).extract 0 ((wrap64 (((a1.extract (t118 : Int).toNat a1.size).size : Int) - t119)) : Int).toNat)) else (none)) else (none)) else (none)) else (none)) = some (r1, r2, r3) := H
       have A19 := Aside0.mk A190
       clear A190
       obtain ⟨ji20, hji20⟩ : ∃ j_ : Int, (wrap64 (((a0.extract (t118 : Int).toNat a0.size).size : Int) - t119)) = j_ := ⟨_, rfl⟩
       replace H : (if 0 ≤ (ji20) then (if (ji20) ≤ ((a0.extract (t118 : Int).toNat a0.size).size : Int) then (if 0 ≤ (wrap64 (((a1.extract (t118 : Int).toNat a1.size).size : Int) - t119)) then (if (wrap64 (((a1.extract (t118 : Int).toNat a1.size).size : Int) - t119)) ≤ ((a1.extract (t118 : Int).toNat a1.size).size : Int) then (some (t118, (a0.extract (t118 : Int).toNat a0.size).extract 0 ((ji20) : Int).toNat, (a1.extract (t118 : Int).toNat a1.size).extract 0 ((wrap64 (((a1.extract (t118 : Int).toNat a1.size).size : Int) - t119)) : Int).toNat)) else (none)) else (none)) else (none)) else (none)) = some (r1, r2, r3) := by first | (rw [hji20] at H; exact H) | (simp only [hji20] at H ⊢; exact H)
       (try rw [hji20] at A14)
       (try rw [hji20] at A19)
       have hji20w : (IntKind.i64.wrap (((a0.extract (t118 : Int).toNat a0.size).size : Int) - t119)) = ji20 := (i64_w _).trans hji20
       try (have hji20x := hji20; simp only [ByteArray.size_extract, Nat.min_self] at hji20x)
       by_cases c21 : 0 ≤ (ji20)
       ·rw [if_pos c21] at H
        have c21b0 := eq_true c21
        try (have c21b0x := c21b0; simp only [ByteArray.size_extract, Nat.min_self] at c21b0x)
        have c21b1 : decide (0 ≤ (ji20)) = true := decide_eq_true c21
        clear c21
        by_cases c22 : (ji20) ≤ ((a0.extract (t118 : Int).toNat a0.size).size : Int)
        ·rw [if_pos c22] at H
         have c22b0 := eq_true c22
         try (have c22b0x := c22b0; simp only [ByteArray.size_extract, Nat.min_self] at c22b0x)
         have c22b1 : decide ((ji20) ≤ ((a0.extract (t118 : Int).toNat a0.size).size : Int)) = true := decide_eq_true c22
         try (have c22b1x := c22b1; simp [-decide_eq_true_eq, -decide_eq_false_iff_not, c15b0, c16b0, c18b0, c21b0, c22b0] at c22b1x)
         clear c22
         obtain ⟨ji23, hji23⟩ : ∃ j_ : Int, (wrap64 (((a1.extract (t118 : Int).toNat a1.size).size : Int) - t119)) = j_ := ⟨_, rfl⟩
         replace H : (if 0 ≤ (ji23) then (if (ji23) ≤ ((a1.extract (t118 : Int).toNat a1.size).size : Int) then (some (t118, (a0.extract (t118 : Int).toNat a0.size).extract 0 ((ji20) : Int).toNat, (a1.extract (t118 : Int).toNat a1.size).extract 0 ((ji23) : Int).toNat)) else (none)) else (none)) = some (r1, r2, r3) := by first | (rw [hji23] at H; exact H) | (simp only [hji23] at H ⊢; exact H)
         (try rw [hji23] at A14)
         (try rw [hji23] at A19)
         have hji23w : (IntKind.i64.wrap (((a1.extract (t118 : Int).toNat a1.size).size : Int) - t119)) = ji23 := (i64_w _).trans hji23
         try (have hji23x := hji23; simp only [ByteArray.size_extract, Nat.min_self] at hji23x)
         by_cases c24 : 0 ≤ (ji23)
         ·rw [if_pos c24] at H
          have c24b0 := eq_true c24
          try (have c24b0x := c24b0; simp only [ByteArray.size_extract, Nat.min_self] at c24b0x)
          have c24b1 : decide (0 ≤ (ji23)) = true := decide_eq_true c24
          clear c24
          by_cases c25 : (ji23) ≤ ((a1.extract (t118 : Int).toNat a1.size).size : Int)
          ·rw [if_pos c25] at H
           have c25b0 := eq_true c25
           try (have c25b0x := c25b0; simp only [ByteArray.size_extract, Nat.min_self] at c25b0x)
           have c25b1 : decide ((ji23) ≤ ((a1.extract (t118 : Int).toNat a1.size).size : Int)) = true := decide_eq_true c25
           try (have c25b1x := c25b1; simp [-decide_eq_true_eq, -decide_eq_false_iff_not, c15b0, c16b0, c18b0, c21b0, c22b0, c24b0, c25b0] at c25b1x)
           clear c25
           simp only [Option.some.injEq, Prod.mk.injEq] at H
           obtain ⟨rfl, rfl, rfl⟩ := H
           try go_wp2_with (first | ((with_reducible refine gate_callee (f := 58) rfl ?_); refine ge_ (some 23) rfl rfl Try.func58 (by kernel_rfl) rfl #[.string a0, .string a1] rfl (h := ?_); (with_reducible refine (change_front.calls kj2 a0 a1 t118 _ A14.out).mono ?_); rintro e w26 ⟨rfl, hb⟩; refine ⟨_, rfl, ?_⟩; replace BK115 := bb_ BK115 hb; replace HB := bs_ HB hb; (try clear hb); (try clear hb2); (try clear hk); (try clear hi)))
           have n0_ := Aside0.mk (blk_drew BK115.out)
           have n1_ := Aside0.mk (below_drew1 HB.out)
           clear BK115
           clear HB
           have BK115 := n0_
           have HB := n1_
           clear n0_ n1_
           refine start_ (n := 8) (S := fun w' => True) (ds := []) #[false, false, false, false, false, false, false, false] (by kernel_rfl) rfl rfl trivial (fun hHeld => ?_); refine with_tabW change_Diff.tab4 change_Diff.bits4 (fun HT_ HW_ => ?_)
           generalize w26.drew = w27 at BK115 HB hHeld ⊢
           refine pp_ (i := 0) (N := some 24) #[true, false, false, false, false, false, false, false] rfl rfl (any_of HT_.out (by kernel_rfl)) (h := ?_)
           refine pp_ (i := 1) (N := some 25) #[true, true, false, false, false, false, false, false] rfl rfl (any_of HT_.out (by kernel_rfl)) (h := ?_)
           refine pp_ (i := 2) (N := some 26) #[true, true, true, false, false, false, false, false] rfl rfl (any_of HT_.out (by kernel_rfl)) (h := ?_)
           refine pp_ (i := 3) (N := some 27) #[true, true, true, true, false, false, false, false] rfl rfl (any_of HT_.out (by kernel_rfl)) (h := ?_)
           refine pp_ (i := 4) (N := some 28) #[true, true, true, true, true, false, false, false] rfl rfl (any_of HT_.out (by kernel_rfl)) (h := ?_)
           refine pp_ (i := 5) (N := some 29) #[true, true, true, true, true, true, false, false] rfl rfl (any_of HT_.out (by kernel_rfl)) (h := ?_)
           refine pp_ (i := 6) (N := some 0) #[true, true, true, true, true, true, true, false] rfl rfl (any_of HT_.out (by kernel_rfl)) (h := ?_)
           refine pp_ (i := 7) (N := some 1) #[true, true, true, true, true, true, true, true] rfl rfl (any_of HT_.out (by kernel_rfl)) (h := ?_)
           refine done_ (done_of HT_.out (by kernel_rfl)) ?_
           try go_wp2_with (first | ((with_reducible refine gate_callee (f := 59) rfl ?_); refine ge_ (some 32) rfl rfl Try.func59 (by kernel_rfl) rfl #[.string (a0.extract (t118 : Int).toNat a0.size), .string (a1.extract (t118 : Int).toNat a1.size)] rfl (h := ?_); (with_reducible refine (change_back.calls kj2 (a0.extract (t118 : Int).toNat a0.size) (a1.extract (t118 : Int).toNat a1.size) t119 _ A19.out).mono ?_); rintro e w28 ⟨rfl, hb⟩; refine ⟨_, rfl, ?_⟩; replace BK115 := bb_ BK115 hb; replace HB := bs_ HB hb; (try clear hb); (try clear hb2); (try clear hk); (try clear hi)))
           have n0_ := Aside0.mk (blk_drew BK115.out)
           have n1_ := Aside0.mk (below_drew1 HB.out)
           clear BK115
           clear HB
           have BK115 := n0_
           have HB := n1_
           clear n0_ n1_
           refine start_ (n := 15) (S := fun w' => True) (ds := []) #[false, false, false, false, false, false, false, false, false, false, false, false, false, false, false] (by kernel_rfl) rfl rfl trivial (fun hHeld => ?_); refine with_tabW change_Diff.tab6 change_Diff.bits6 (fun HT_ HW_ => ?_)
           generalize w28.drew = w29 at BK115 HB hHeld ⊢
           refine pp_ (i := 0) (N := some 33) #[true, false, false, false, false, false, false, false, false, false, false, false, false, false, false] rfl rfl (any_of HT_.out (by kernel_rfl)) (h := ?_)
           refine pp_ (i := 1) (N := some 34) #[true, true, false, false, false, false, false, false, false, false, false, false, false, false, false] rfl rfl (any_of HT_.out (by kernel_rfl)) (h := ?_)
           refine pp_ (i := 2) (N := some 35) #[true, true, true, false, false, false, false, false, false, false, false, false, false, false, false] rfl rfl (any_of HT_.out (by kernel_rfl)) (h := ?_)
           refine pp_ (i := 3) (N := some 36) #[true, true, true, true, false, false, false, false, false, false, false, false, false, false, false] rfl rfl (any_of HT_.out (by kernel_rfl)) (h := ?_)
           refine pp_ (i := 4) (N := some 37) #[true, true, true, true, true, false, false, false, false, false, false, false, false, false, false] rfl rfl (any_of HT_.out (by kernel_rfl)) (h := ?_)
           refine pp_ (i := 5) (N := some 38) #[true, true, true, true, true, true, false, false, false, false, false, false, false, false, false] rfl rfl (any_of HT_.out (by kernel_rfl)) (h := ?_)
           refine pp_ (i := 6) (N := some 39) #[true, true, true, true, true, true, true, false, false, false, false, false, false, false, false] rfl rfl (any_of HT_.out (by kernel_rfl)) (h := ?_)
           refine pp_ (i := 7) (N := some 40) #[true, true, true, true, true, true, true, true, false, false, false, false, false, false, false] rfl rfl (any_of HT_.out (by kernel_rfl)) (h := ?_)
           refine pp_ (i := 8) (N := some 41) #[true, true, true, true, true, true, true, true, true, false, false, false, false, false, false] rfl rfl (any_of HT_.out (by kernel_rfl)) (h := ?_)
           refine pp_ (i := 9) (N := some 42) #[true, true, true, true, true, true, true, true, true, true, false, false, false, false, false] rfl rfl (any_of HT_.out (by kernel_rfl)) (h := ?_)
           refine pp_ (i := 10) (N := some 43) #[true, true, true, true, true, true, true, true, true, true, true, false, false, false, false] rfl rfl (any_of HT_.out (by kernel_rfl)) (h := ?_)
           refine pp_ (i := 11) (N := some 44) #[true, true, true, true, true, true, true, true, true, true, true, true, false, false, false] rfl rfl (any_of HT_.out (by kernel_rfl)) (h := ?_)
           refine pp_ (i := 12) (N := some 45) #[true, true, true, true, true, true, true, true, true, true, true, true, true, false, false] rfl rfl (any_of HT_.out (by kernel_rfl)) (h := ?_)
           refine pp_ (i := 13) (N := some 46) #[true, true, true, true, true, true, true, true, true, true, true, true, true, true, false] rfl rfl (any_of HT_.out (by kernel_rfl)) (h := ?_)
           refine one_ (i := 14) (N := none) #[true, true, true, true, true, true, true, true, true, true, true, true, true, true, true] rfl rfl (one_of HT_.out (by kernel_rfl)) (by decide) (fun K hK => ?_)
           have hs30 : w29.cell? ⟨gb115, 0, none⟩ = some (.int .i64 0) := (blk_cell BK115.out 0).trans rfl
           have hfs30 := blk_frozen BK115.out 0
           have hs31 : w29.cell? ⟨gb115, 1, none⟩ = some (.string (⟨#[]⟩ : ByteArray)) := (blk_cell BK115.out 1).trans rfl
           have hfs31 := blk_frozen BK115.out 1
           have hs32 : w29.cell? ⟨gb115, 2, none⟩ = some (.string (⟨#[]⟩ : ByteArray)) := (blk_cell BK115.out 2).trans rfl
           have hfs32 := blk_frozen BK115.out 2
           refine skip_ (w1 := ?_) (by rfl) rfl ?_ ?_
           rotate_left
           ·go_simp
            rfl
           refine hK.out _ _ trivial (fun hHeld => ?_)
           clear hK K
           refine done_ (done_of HT_.out (by kernel_rfl)) ?_
           try go_wp2
           refine bodyPost_ret (results_cell_row rfl _ _ gb115 24 #[.int .i64 t118, .string ((a0.extract (t118 : Int).toNat a0.size).extract 0 ((ji20) : Int).toNat), .string ((a1.extract (t118 : Int).toNat a1.size).extract 0 ((ji23) : Int).toNat)] (0, 0) _ rfl (bp_ BK115.out) Try.underlying24 rfl (by kernel_rfl)) rfl ?_
           exact ⟨by first | rfl | (simp [errW_none, errW_some] <;> rfl) | (simp only [← hji20, ← hji23]; first | rfl | (simp [errW_none, errW_some] <;> rfl)) | (simp [*, errW_none, errW_some] <;> rfl), hb_ HB⟩
          ·rw [if_neg c25] at H
           exact absurd H (by simp)
         ·rw [if_neg c24] at H
          exact absurd H (by simp)
        ·rw [if_neg c22] at H
         exact absurd H (by simp)
       ·rw [if_neg c21] at H
        exact absurd H (by simp)
      ·rw [if_neg c18] at H
       exact absurd H (by simp)
     ·rw [if_neg c16] at H
      exact absurd H (by simp)
    ·rw [if_neg c15] at H
     exact absurd H (by simp)

/-! ### stringslite_HasPrefix: function 91 -/
def stringslite_HasPrefix.f (a0 : ByteArray) (a1 : ByteArray) : Option (Bool) := if (a0.size : Int) ≥ (a1.size : Int) then (if 0 ≤ (a1.size : Int) then (if (a1.size : Int) ≤ (a0.size : Int) then (some ((a0.extract 0 ((a1.size : Int) : Int).toNat).toList == a1.toList)) else (none)) else (none)) else (some false)
set_option maxHeartbeats 8000000 in
set_option maxRecDepth 100000 in
theorem stringslite_HasPrefix.calls (a0 : ByteArray) (a1 : ByteArray) (r : Bool) (w : World) (h : stringslite_HasPrefix.f a0 a1 = some r) :
  Calls Try.prog 91 #[.string a0, .string a1] w fun e w' => e = .returned (.bool r) ∧ Drawn0 w w' := by
 have H : (if (a0.size : Int) ≥ (a1.size : Int) then (if 0 ≤ (a1.size : Int) then (if (a1.size : Int) ≤ (a0.size : Int) then (some ((a0.extract 0 ((a1.size : Int) : Int).toNat).toList == a1.toList)) else (none)) else (none)) else (some false)) = some r := h
 clear h
 by_cases c3 : (a0.size : Int) ≥ (a1.size : Int)
 ·rw [if_pos c3] at H
  have c3b0 : decide ((a1.size : Int) ≤ (a0.size : Int)) = true := decide_eq_true c3
  have c3b1 : decide (a1.size ≤ a0.size) = true := decide_eq_true (Int.ofNat_le.mp c3)
  clear c3
  by_cases c4 : 0 ≤ (a1.size : Int)
  ·rw [if_pos c4] at H
   have c4b0 := eq_true c4
   try (have c4b0x := c4b0; simp only [ByteArray.size_extract, Nat.min_self] at c4b0x)
   have c4b1 : decide (0 ≤ (a1.size : Int)) = true := decide_eq_true c4
   clear c4
   by_cases c5 : (a1.size : Int) ≤ (a0.size : Int)
   ·rw [if_pos c5] at H
    have c5b0 := eq_true c5
    try (have c5b0x := c5b0; simp only [ByteArray.size_extract, Nat.min_self] at c5b0x)
    have c5b1 : decide ((a1.size : Int) ≤ (a0.size : Int)) = true := decide_eq_true c5
    clear c5
    obtain rfl := Option.some.inj H
    go_enter Try.func91, Try.ntmps91
    go_wp2
    go_ret
    exact ⟨by first | rfl | (simp; done) | (simp [*]; done), by repeat (first | exact Drawn0.refl _ | apply Drawn0.step)⟩
   ·rw [if_neg c5] at H
    exact absurd H (by simp)
  ·rw [if_neg c4] at H
   exact absurd H (by simp)
 ·rw [if_neg c3] at H
  have c3b0 : decide ((a1.size : Int) ≤ (a0.size : Int)) = false := decide_eq_false c3
  have c3b1 : decide (a1.size ≤ a0.size) = false := decide_eq_false (fun h => c3 (Int.ofNat_le.mpr h))
  clear c3
  obtain rfl := Option.some.inj H
  go_enter Try.func91, Try.ntmps91
  go_wp2
  go_ret
  exact ⟨by first | rfl | (simp; done) | (simp [*]; done), by repeat (first | exact Drawn0.refl _ | apply Drawn0.step)⟩

/-! ### strings_HasPrefix: function 66 -/
def strings_HasPrefix.f (a0 : ByteArray) (a1 : ByteArray) : Option (Bool) := (stringslite_HasPrefix.f a0 a1).bind fun t120 => (some t120)
set_option maxHeartbeats 8000000 in
set_option maxRecDepth 100000 in
theorem strings_HasPrefix.calls (a0 : ByteArray) (a1 : ByteArray) (r : Bool) (w : World) (h : strings_HasPrefix.f a0 a1 = some r) :
  Calls Try.prog 66 #[.string a0, .string a1] w fun e w' => e = .returned (.bool r) ∧ Drawn0 w w' := by
 have H : ((stringslite_HasPrefix.f a0 a1).bind fun t120 => (some t120)) = some r := h
 clear h
 replace H := Option.bind_eq_some_iff.mp H
 obtain ⟨t120, A30, H⟩ := H
 replace H : (some t120) = some r := H
 have A3 := Aside0.mk A30
 clear A30
 obtain rfl := Option.some.inj H
 go_enter Try.func66, Try.ntmps66
 go_wp2_with (first | ((with_reducible refine gate_callee (f := 91) rfl ?_); refine ge_ (some 7) rfl rfl Try.func91 (by kernel_rfl) rfl #[.string a0, .string a1] rfl (h := ?_); (with_reducible refine (stringslite_HasPrefix.calls a0 a1 t120 _ A3.out).mono ?_); rintro e w' ⟨rfl, ⟨nd, rfl⟩⟩; refine ⟨_, rfl, ?_⟩))
 go_ret
 exact ⟨by first | rfl | (simp; done) | (simp [*]; done), by repeat (first | exact Drawn0.refl _ | apply Drawn0.step)⟩

/-! ### change_Fits: function 23 -/
def change_Fits.f (k : Nat) (a0 : ByteArray) (a1_0 : Int) (a1_1 : ByteArray) (a1_2 : ByteArray) : Option (Bool) := (utf_Place.f k a0 a1_0).bind fun t122 => (if t122 = true then ((utf_Valid.f k a1_1).bind fun t123 => (if t123 = true then ((utf_Valid.f k a1_2).bind fun t124 => (if t124 = true then (if 0 ≤ a1_0 then (if a1_0 ≤ (a0.size : Int) then ((strings_HasPrefix.f (a0.extract (a1_0 : Int).toNat a0.size) a1_1).bind fun t125 => (some t125)) else (none)) else (none)) else (some false))) else (some false))) else (some false))
theorem change_Fits.mono : ∀ a0 a1 a2 a3 k, LeO (change_Fits.f k a0 a1 a2 a3) (change_Fits.f (k + 1) a0 a1 a2 a3) := by
 intro a0 a1 a2 a3 k
 unfold change_Fits.f
 repeat' first
   | (with_reducible exact utf_Place.mono _ _ _)
   | (with_reducible exact utf_Valid.mono _ _)
   | (with_reducible exact LeO.refl _)
   | (with_reducible exact LeO.none _)
   | (with_reducible refine LeO.ite ?_ ?_)
   | (with_reducible refine LeO.bind ?_ (fun _ => ?_))
   | exact utf_Place.mono _ _ _
   | exact utf_Valid.mono _ _
   | exact LeO.none _
   | refine LeO.ite ?_ ?_
   | refine LeO.bind ?_ (fun _ => ?_)
set_option maxHeartbeats 8000000 in
set_option maxRecDepth 100000 in
theorem change_Fits.calls (k : Nat) (a0 : ByteArray) (a1_0 : Int) (a1_1 : ByteArray) (a1_2 : ByteArray) (r : Bool) (w : World) (h : change_Fits.f k a0 a1_0 a1_1 a1_2 = some r) :
  Calls Try.prog 23 #[.string a0, .agg #[.int .i64 a1_0, .string a1_1, .string a1_2]] w fun e w' => e = .returned (.bool r) ∧ Below w.heap.size w w' := by
 have hu24 := Try.underlying24
 have HB := Aside0.mk (Below.refl w.heap.size w)
 have H : ((utf_Place.f k a0 a1_0).bind fun t122 => (if t122 = true then ((utf_Valid.f k a1_1).bind fun t123 => (if t123 = true then ((utf_Valid.f k a1_2).bind fun t124 => (if t124 = true then (if 0 ≤ a1_0 then (if a1_0 ≤ (a0.size : Int) then ((strings_HasPrefix.f (a0.extract (a1_0 : Int).toNat a0.size) a1_1).bind fun t125 => (some t125)) else (none)) else (none)) else (some false))) else (some false))) else (some false))) = some r := h
 clear h
 replace H := Option.bind_eq_some_iff.mp H
 obtain ⟨t122, A30, H⟩ := H
 replace H : (if t122 = true then ((utf_Valid.f k a1_1).bind fun t123 => (if t123 = true then ((utf_Valid.f k a1_2).bind fun t124 => (if t124 = true then (if 0 ≤ a1_0 then (if a1_0 ≤ (a0.size : Int) then ((strings_HasPrefix.f (a0.extract (a1_0 : Int).toNat a0.size) a1_1).bind fun t125 => (some t125)) else (none)) else (none)) else (some false))) else (some false))) else (some false)) = some r := H
 have A3 := Aside0.mk A30
 clear A30
 by_cases c4 : t122 = true
 ·subst c4
  have H1 : ((utf_Valid.f k a1_1).bind fun t123 => (if t123 = true then ((utf_Valid.f k a1_2).bind fun t124 => (if t124 = true then (if 0 ≤ a1_0 then (if a1_0 ≤ (a0.size : Int) then ((strings_HasPrefix.f (a0.extract (a1_0 : Int).toNat a0.size) a1_1).bind fun t125 => (some t125)) else (none)) else (none)) else (some false))) else (some false))) = some r := by rw [if_pos rfl] at H; exact H
  clear H
  have H := H1
  clear H1
  replace H := Option.bind_eq_some_iff.mp H
  obtain ⟨t123, A50, H⟩ := H
  replace H : (if t123 = true then ((utf_Valid.f k a1_2).bind fun t124 => (if t124 = true then (if 0 ≤ a1_0 then (if a1_0 ≤ (a0.size : Int) then ((strings_HasPrefix.f (a0.extract (a1_0 : Int).toNat a0.size) a1_1).bind fun t125 => (some t125)) else (none)) else (none)) else (some false))) else (some false)) = some r := H
  have A5 := Aside0.mk A50
  clear A50
  by_cases c6 : t123 = true
  ·subst c6
   have H1 : ((utf_Valid.f k a1_2).bind fun t124 => (if t124 = true then (if 0 ≤ a1_0 then (if a1_0 ≤ (a0.size : Int) then ((strings_HasPrefix.f (a0.extract (a1_0 : Int).toNat a0.size) a1_1).bind fun t125 => (some t125)) else (none)) else (none)) else (some false))) = some r := by rw [if_pos rfl] at H; exact H
   clear H
   have H := H1
   clear H1
   replace H := Option.bind_eq_some_iff.mp H
   obtain ⟨t124, A70, H⟩ := H
   replace H : (if t124 = true then (if 0 ≤ a1_0 then (if a1_0 ≤ (a0.size : Int) then ((strings_HasPrefix.f (a0.extract (a1_0 : Int).toNat a0.size) a1_1).bind fun t125 => (some t125)) else (none)) else (none)) else (some false)) = some r := H
   have A7 := Aside0.mk A70
   clear A70
   by_cases c8 : t124 = true
   ·subst c8
    have H1 : (if 0 ≤ a1_0 then (if a1_0 ≤ (a0.size : Int) then ((strings_HasPrefix.f (a0.extract (a1_0 : Int).toNat a0.size) a1_1).bind fun t125 => (some t125)) else (none)) else (none)) = some r := by rw [if_pos rfl] at H; exact H
    clear H
    have H := H1
    clear H1
    by_cases c9 : 0 ≤ a1_0
    ·rw [if_pos c9] at H
     have c9b0 := eq_true c9
     try (have c9b0x := c9b0; simp only [ByteArray.size_extract, Nat.min_self] at c9b0x)
     have c9b1 : decide (0 ≤ a1_0) = true := decide_eq_true c9
     clear c9
     by_cases c10 : a1_0 ≤ (a0.size : Int)
     ·rw [if_pos c10] at H
      have c10b0 := eq_true c10
      try (have c10b0x := c10b0; simp only [ByteArray.size_extract, Nat.min_self] at c10b0x)
      have c10b1 : decide (a1_0 ≤ (a0.size : Int)) = true := decide_eq_true c10
      clear c10
      replace H := Option.bind_eq_some_iff.mp H
      obtain ⟨t125, A110, H⟩ := H
      replace H : (some t125) = some r := H
      have A11 := Aside0.mk A110
      clear A110
      obtain rfl := Option.some.inj H
      go_enter Try.func23, Try.ntmps23
      go_wp2_with (first | ((with_reducible refine gate_dst (N := 3) rfl ?_); refine be_ (N := 3) (cs := #[.int .i64 a1_0, .string a1_1, .string a1_2]) (t := 24) (h := ?_); intro gb121 hg w12 hbox hb; have BK121 := Aside0.mk (hbox); have GW121 := gw_ HB hg; have GE121 := gw_ HB hg; replace HB := bs_ HB hb; clear hb hbox hg; obtain ⟨hcz13_0, hcz13_1, hcz13_2, hfz13_0, hfz13_1, hfz13_2⟩ := bc3_ BK121) | (go_at_call 65; (with_reducible refine (utf_Place.calls k a0 a1_0 true _ A3.out).mono ?_); rintro e w14 ⟨rfl, hb⟩; replace BK121 := bb_ BK121 hb; replace HB := bs_ HB hb; (try clear hb); (try clear hb2); (try clear hk); (try clear hi); obtain ⟨hcz15_0, hcz15_1, hcz15_2, hfz15_0, hfz15_1, hfz15_2⟩ := bc3_ BK121) | (go_at_call 26; (with_reducible refine (utf_Valid.calls k a1_1 true _ A5.out).mono ?_); rintro e w16 ⟨rfl, hb⟩; replace BK121 := bb_ BK121 hb; replace HB := bs_ HB hb; (try clear hb); (try clear hb2); (try clear hk); (try clear hi); obtain ⟨hcz17_0, hcz17_1, hcz17_2, hfz17_0, hfz17_1, hfz17_2⟩ := bc3_ BK121) | (go_at_call 26; (with_reducible refine (utf_Valid.calls k a1_2 true _ A7.out).mono ?_); rintro e w18 ⟨rfl, hb⟩; replace BK121 := bb_ BK121 hb; replace HB := bs_ HB hb; (try clear hb); (try clear hb2); (try clear hk); (try clear hi); obtain ⟨hcz19_0, hcz19_1, hcz19_2, hfz19_0, hfz19_1, hfz19_2⟩ := bc3_ BK121) | (go_at_call 66; (with_reducible refine (strings_HasPrefix.calls (a0.extract (a1_0 : Int).toNat a0.size) a1_1 t125 _ A11.out).mono ?_); rintro e w' ⟨rfl, ⟨nd, rfl⟩⟩; (try first | exact ⟨rfl, _, World.drewN_drewN _ _ _⟩ | exact ⟨rfl, _, Eq.trans (World.drewN_drewN _ _ _) (congrArg (World.drewN _) (Nat.add_assoc _ _ _))⟩)))
      repeat (go_quiet (first | ((with_reducible refine gate_dst (N := 3) rfl ?_); refine be_ (N := 3) (cs := #[.int .i64 a1_0, .string a1_1, .string a1_2]) (t := 24) (h := ?_); intro gb121 hg w12 hbox hb; have BK121 := Aside0.mk (hbox); have GW121 := gw_ HB hg; have GE121 := gw_ HB hg; replace HB := bs_ HB hb; clear hb hbox hg; obtain ⟨hcz13_0, hcz13_1, hcz13_2, hfz13_0, hfz13_1, hfz13_2⟩ := bc3_ BK121) | (go_at_call 65; (with_reducible refine (utf_Place.calls k a0 a1_0 true _ A3.out).mono ?_); rintro e w14 ⟨rfl, hb⟩; replace BK121 := bb_ BK121 hb; replace HB := bs_ HB hb; (try clear hb); (try clear hb2); (try clear hk); (try clear hi); obtain ⟨hcz15_0, hcz15_1, hcz15_2, hfz15_0, hfz15_1, hfz15_2⟩ := bc3_ BK121) | (go_at_call 26; (with_reducible refine (utf_Valid.calls k a1_1 true _ A5.out).mono ?_); rintro e w16 ⟨rfl, hb⟩; replace BK121 := bb_ BK121 hb; replace HB := bs_ HB hb; (try clear hb); (try clear hb2); (try clear hk); (try clear hi); obtain ⟨hcz17_0, hcz17_1, hcz17_2, hfz17_0, hfz17_1, hfz17_2⟩ := bc3_ BK121) | (go_at_call 26; (with_reducible refine (utf_Valid.calls k a1_2 true _ A7.out).mono ?_); rintro e w18 ⟨rfl, hb⟩; replace BK121 := bb_ BK121 hb; replace HB := bs_ HB hb; (try clear hb); (try clear hb2); (try clear hk); (try clear hi); obtain ⟨hcz19_0, hcz19_1, hcz19_2, hfz19_0, hfz19_1, hfz19_2⟩ := bc3_ BK121) | (go_at_call 66; (with_reducible refine (strings_HasPrefix.calls (a0.extract (a1_0 : Int).toNat a0.size) a1_1 t125 _ A11.out).mono ?_); rintro e w' ⟨rfl, ⟨nd, rfl⟩⟩; (try first | exact ⟨rfl, _, World.drewN_drewN _ _ _⟩ | exact ⟨rfl, _, Eq.trans (World.drewN_drewN _ _ _) (congrArg (World.drewN _) (Nat.add_assoc _ _ _))⟩))); try go_wp2_with (first | ((with_reducible refine gate_dst (N := 3) rfl ?_); refine be_ (N := 3) (cs := #[.int .i64 a1_0, .string a1_1, .string a1_2]) (t := 24) (h := ?_); intro gb121 hg w12 hbox hb; have BK121 := Aside0.mk (hbox); have GW121 := gw_ HB hg; have GE121 := gw_ HB hg; replace HB := bs_ HB hb; clear hb hbox hg; obtain ⟨hcz13_0, hcz13_1, hcz13_2, hfz13_0, hfz13_1, hfz13_2⟩ := bc3_ BK121) | (go_at_call 65; (with_reducible refine (utf_Place.calls k a0 a1_0 true _ A3.out).mono ?_); rintro e w14 ⟨rfl, hb⟩; replace BK121 := bb_ BK121 hb; replace HB := bs_ HB hb; (try clear hb); (try clear hb2); (try clear hk); (try clear hi); obtain ⟨hcz15_0, hcz15_1, hcz15_2, hfz15_0, hfz15_1, hfz15_2⟩ := bc3_ BK121) | (go_at_call 26; (with_reducible refine (utf_Valid.calls k a1_1 true _ A5.out).mono ?_); rintro e w16 ⟨rfl, hb⟩; replace BK121 := bb_ BK121 hb; replace HB := bs_ HB hb; (try clear hb); (try clear hb2); (try clear hk); (try clear hi); obtain ⟨hcz17_0, hcz17_1, hcz17_2, hfz17_0, hfz17_1, hfz17_2⟩ := bc3_ BK121) | (go_at_call 26; (with_reducible refine (utf_Valid.calls k a1_2 true _ A7.out).mono ?_); rintro e w18 ⟨rfl, hb⟩; replace BK121 := bb_ BK121 hb; replace HB := bs_ HB hb; (try clear hb); (try clear hb2); (try clear hk); (try clear hi); obtain ⟨hcz19_0, hcz19_1, hcz19_2, hfz19_0, hfz19_1, hfz19_2⟩ := bc3_ BK121) | (go_at_call 66; (with_reducible refine (strings_HasPrefix.calls (a0.extract (a1_0 : Int).toNat a0.size) a1_1 t125 _ A11.out).mono ?_); rintro e w' ⟨rfl, ⟨nd, rfl⟩⟩; (try first | exact ⟨rfl, _, World.drewN_drewN _ _ _⟩ | exact ⟨rfl, _, Eq.trans (World.drewN_drewN _ _ _) (congrArg (World.drewN _) (Nat.add_assoc _ _ _))⟩))))
      go_ret
      exact ⟨er_, hb_ HB⟩
     ·rw [if_neg c10] at H
      exact absurd H (by simp)
    ·rw [if_neg c9] at H
     exact absurd H (by simp)
   ·replace c8 := Bool.eq_false_iff.mpr c8
    subst c8
    have H1 : (some false) = some r := by rw [if_neg (show ¬ (false = true) by decide)] at H; exact H
    clear H
    have H := H1
    clear H1
    obtain rfl := Option.some.inj H
    go_enter Try.func23, Try.ntmps23
    go_wp2_with (first | ((with_reducible refine gate_dst (N := 3) rfl ?_); refine be_ (N := 3) (cs := #[.int .i64 a1_0, .string a1_1, .string a1_2]) (t := 24) (h := ?_); intro gb121 hg w20 hbox hb; have BK121 := Aside0.mk (hbox); have GW121 := gw_ HB hg; have GE121 := gw_ HB hg; replace HB := bs_ HB hb; clear hb hbox hg; obtain ⟨hcz21_0, hcz21_1, hcz21_2, hfz21_0, hfz21_1, hfz21_2⟩ := bc3_ BK121) | (go_at_call 65; (with_reducible refine (utf_Place.calls k a0 a1_0 true _ A3.out).mono ?_); rintro e w22 ⟨rfl, hb⟩; replace BK121 := bb_ BK121 hb; replace HB := bs_ HB hb; (try clear hb); (try clear hb2); (try clear hk); (try clear hi); obtain ⟨hcz23_0, hcz23_1, hcz23_2, hfz23_0, hfz23_1, hfz23_2⟩ := bc3_ BK121) | (go_at_call 26; (with_reducible refine (utf_Valid.calls k a1_1 true _ A5.out).mono ?_); rintro e w24 ⟨rfl, hb⟩; replace BK121 := bb_ BK121 hb; replace HB := bs_ HB hb; (try clear hb); (try clear hb2); (try clear hk); (try clear hi); obtain ⟨hcz25_0, hcz25_1, hcz25_2, hfz25_0, hfz25_1, hfz25_2⟩ := bc3_ BK121) | (go_at_call 26; (with_reducible refine (utf_Valid.calls k a1_2 false _ A7.out).mono ?_); rintro e w26 ⟨rfl, hb⟩; replace BK121 := bb_ BK121 hb; replace HB := bs_ HB hb; (try clear hb); (try clear hb2); (try clear hk); (try clear hi)))
    repeat (go_quiet (first | ((with_reducible refine gate_dst (N := 3) rfl ?_); refine be_ (N := 3) (cs := #[.int .i64 a1_0, .string a1_1, .string a1_2]) (t := 24) (h := ?_); intro gb121 hg w20 hbox hb; have BK121 := Aside0.mk (hbox); have GW121 := gw_ HB hg; have GE121 := gw_ HB hg; replace HB := bs_ HB hb; clear hb hbox hg; obtain ⟨hcz21_0, hcz21_1, hcz21_2, hfz21_0, hfz21_1, hfz21_2⟩ := bc3_ BK121) | (go_at_call 65; (with_reducible refine (utf_Place.calls k a0 a1_0 true _ A3.out).mono ?_); rintro e w22 ⟨rfl, hb⟩; replace BK121 := bb_ BK121 hb; replace HB := bs_ HB hb; (try clear hb); (try clear hb2); (try clear hk); (try clear hi); obtain ⟨hcz23_0, hcz23_1, hcz23_2, hfz23_0, hfz23_1, hfz23_2⟩ := bc3_ BK121) | (go_at_call 26; (with_reducible refine (utf_Valid.calls k a1_1 true _ A5.out).mono ?_); rintro e w24 ⟨rfl, hb⟩; replace BK121 := bb_ BK121 hb; replace HB := bs_ HB hb; (try clear hb); (try clear hb2); (try clear hk); (try clear hi); obtain ⟨hcz25_0, hcz25_1, hcz25_2, hfz25_0, hfz25_1, hfz25_2⟩ := bc3_ BK121) | (go_at_call 26; (with_reducible refine (utf_Valid.calls k a1_2 false _ A7.out).mono ?_); rintro e w26 ⟨rfl, hb⟩; replace BK121 := bb_ BK121 hb; replace HB := bs_ HB hb; (try clear hb); (try clear hb2); (try clear hk); (try clear hi))); try go_wp2_with (first | ((with_reducible refine gate_dst (N := 3) rfl ?_); refine be_ (N := 3) (cs := #[.int .i64 a1_0, .string a1_1, .string a1_2]) (t := 24) (h := ?_); intro gb121 hg w20 hbox hb; have BK121 := Aside0.mk (hbox); have GW121 := gw_ HB hg; have GE121 := gw_ HB hg; replace HB := bs_ HB hb; clear hb hbox hg; obtain ⟨hcz21_0, hcz21_1, hcz21_2, hfz21_0, hfz21_1, hfz21_2⟩ := bc3_ BK121) | (go_at_call 65; (with_reducible refine (utf_Place.calls k a0 a1_0 true _ A3.out).mono ?_); rintro e w22 ⟨rfl, hb⟩; replace BK121 := bb_ BK121 hb; replace HB := bs_ HB hb; (try clear hb); (try clear hb2); (try clear hk); (try clear hi); obtain ⟨hcz23_0, hcz23_1, hcz23_2, hfz23_0, hfz23_1, hfz23_2⟩ := bc3_ BK121) | (go_at_call 26; (with_reducible refine (utf_Valid.calls k a1_1 true _ A5.out).mono ?_); rintro e w24 ⟨rfl, hb⟩; replace BK121 := bb_ BK121 hb; replace HB := bs_ HB hb; (try clear hb); (try clear hb2); (try clear hk); (try clear hi); obtain ⟨hcz25_0, hcz25_1, hcz25_2, hfz25_0, hfz25_1, hfz25_2⟩ := bc3_ BK121) | (go_at_call 26; (with_reducible refine (utf_Valid.calls k a1_2 false _ A7.out).mono ?_); rintro e w26 ⟨rfl, hb⟩; replace BK121 := bb_ BK121 hb; replace HB := bs_ HB hb; (try clear hb); (try clear hb2); (try clear hk); (try clear hi))))
    go_ret
    exact ⟨er_, hb_ HB⟩
  ·replace c6 := Bool.eq_false_iff.mpr c6
   subst c6
   have H1 : (some false) = some r := by rw [if_neg (show ¬ (false = true) by decide)] at H; exact H
   clear H
   have H := H1
   clear H1
   obtain rfl := Option.some.inj H
   go_enter Try.func23, Try.ntmps23
   go_wp2_with (first | ((with_reducible refine gate_dst (N := 3) rfl ?_); refine be_ (N := 3) (cs := #[.int .i64 a1_0, .string a1_1, .string a1_2]) (t := 24) (h := ?_); intro gb121 hg w27 hbox hb; have BK121 := Aside0.mk (hbox); have GW121 := gw_ HB hg; have GE121 := gw_ HB hg; replace HB := bs_ HB hb; clear hb hbox hg; obtain ⟨hcz28_0, hcz28_1, hcz28_2, hfz28_0, hfz28_1, hfz28_2⟩ := bc3_ BK121) | (go_at_call 65; (with_reducible refine (utf_Place.calls k a0 a1_0 true _ A3.out).mono ?_); rintro e w29 ⟨rfl, hb⟩; replace BK121 := bb_ BK121 hb; replace HB := bs_ HB hb; (try clear hb); (try clear hb2); (try clear hk); (try clear hi); obtain ⟨hcz30_0, hcz30_1, hcz30_2, hfz30_0, hfz30_1, hfz30_2⟩ := bc3_ BK121) | (go_at_call 26; (with_reducible refine (utf_Valid.calls k a1_1 false _ A5.out).mono ?_); rintro e w31 ⟨rfl, hb⟩; replace BK121 := bb_ BK121 hb; replace HB := bs_ HB hb; (try clear hb); (try clear hb2); (try clear hk); (try clear hi)))
   repeat (go_quiet (first | ((with_reducible refine gate_dst (N := 3) rfl ?_); refine be_ (N := 3) (cs := #[.int .i64 a1_0, .string a1_1, .string a1_2]) (t := 24) (h := ?_); intro gb121 hg w27 hbox hb; have BK121 := Aside0.mk (hbox); have GW121 := gw_ HB hg; have GE121 := gw_ HB hg; replace HB := bs_ HB hb; clear hb hbox hg; obtain ⟨hcz28_0, hcz28_1, hcz28_2, hfz28_0, hfz28_1, hfz28_2⟩ := bc3_ BK121) | (go_at_call 65; (with_reducible refine (utf_Place.calls k a0 a1_0 true _ A3.out).mono ?_); rintro e w29 ⟨rfl, hb⟩; replace BK121 := bb_ BK121 hb; replace HB := bs_ HB hb; (try clear hb); (try clear hb2); (try clear hk); (try clear hi); obtain ⟨hcz30_0, hcz30_1, hcz30_2, hfz30_0, hfz30_1, hfz30_2⟩ := bc3_ BK121) | (go_at_call 26; (with_reducible refine (utf_Valid.calls k a1_1 false _ A5.out).mono ?_); rintro e w31 ⟨rfl, hb⟩; replace BK121 := bb_ BK121 hb; replace HB := bs_ HB hb; (try clear hb); (try clear hb2); (try clear hk); (try clear hi))); try go_wp2_with (first | ((with_reducible refine gate_dst (N := 3) rfl ?_); refine be_ (N := 3) (cs := #[.int .i64 a1_0, .string a1_1, .string a1_2]) (t := 24) (h := ?_); intro gb121 hg w27 hbox hb; have BK121 := Aside0.mk (hbox); have GW121 := gw_ HB hg; have GE121 := gw_ HB hg; replace HB := bs_ HB hb; clear hb hbox hg; obtain ⟨hcz28_0, hcz28_1, hcz28_2, hfz28_0, hfz28_1, hfz28_2⟩ := bc3_ BK121) | (go_at_call 65; (with_reducible refine (utf_Place.calls k a0 a1_0 true _ A3.out).mono ?_); rintro e w29 ⟨rfl, hb⟩; replace BK121 := bb_ BK121 hb; replace HB := bs_ HB hb; (try clear hb); (try clear hb2); (try clear hk); (try clear hi); obtain ⟨hcz30_0, hcz30_1, hcz30_2, hfz30_0, hfz30_1, hfz30_2⟩ := bc3_ BK121) | (go_at_call 26; (with_reducible refine (utf_Valid.calls k a1_1 false _ A5.out).mono ?_); rintro e w31 ⟨rfl, hb⟩; replace BK121 := bb_ BK121 hb; replace HB := bs_ HB hb; (try clear hb); (try clear hb2); (try clear hk); (try clear hi))))
   go_ret
   exact ⟨er_, hb_ HB⟩
 ·replace c4 := Bool.eq_false_iff.mpr c4
  subst c4
  have H1 : (some false) = some r := by rw [if_neg (show ¬ (false = true) by decide)] at H; exact H
  clear H
  have H := H1
  clear H1
  obtain rfl := Option.some.inj H
  go_enter Try.func23, Try.ntmps23
  go_wp2_with (first | ((with_reducible refine gate_dst (N := 3) rfl ?_); refine be_ (N := 3) (cs := #[.int .i64 a1_0, .string a1_1, .string a1_2]) (t := 24) (h := ?_); intro gb121 hg w32 hbox hb; have BK121 := Aside0.mk (hbox); have GW121 := gw_ HB hg; have GE121 := gw_ HB hg; replace HB := bs_ HB hb; clear hb hbox hg; obtain ⟨hcz33_0, hcz33_1, hcz33_2, hfz33_0, hfz33_1, hfz33_2⟩ := bc3_ BK121) | (go_at_call 65; (with_reducible refine (utf_Place.calls k a0 a1_0 false _ A3.out).mono ?_); rintro e w34 ⟨rfl, hb⟩; replace BK121 := bb_ BK121 hb; replace HB := bs_ HB hb; (try clear hb); (try clear hb2); (try clear hk); (try clear hi)))
  repeat (go_quiet (first | ((with_reducible refine gate_dst (N := 3) rfl ?_); refine be_ (N := 3) (cs := #[.int .i64 a1_0, .string a1_1, .string a1_2]) (t := 24) (h := ?_); intro gb121 hg w32 hbox hb; have BK121 := Aside0.mk (hbox); have GW121 := gw_ HB hg; have GE121 := gw_ HB hg; replace HB := bs_ HB hb; clear hb hbox hg; obtain ⟨hcz33_0, hcz33_1, hcz33_2, hfz33_0, hfz33_1, hfz33_2⟩ := bc3_ BK121) | (go_at_call 65; (with_reducible refine (utf_Place.calls k a0 a1_0 false _ A3.out).mono ?_); rintro e w34 ⟨rfl, hb⟩; replace BK121 := bb_ BK121 hb; replace HB := bs_ HB hb; (try clear hb); (try clear hb2); (try clear hk); (try clear hi))); try go_wp2_with (first | ((with_reducible refine gate_dst (N := 3) rfl ?_); refine be_ (N := 3) (cs := #[.int .i64 a1_0, .string a1_1, .string a1_2]) (t := 24) (h := ?_); intro gb121 hg w32 hbox hb; have BK121 := Aside0.mk (hbox); have GW121 := gw_ HB hg; have GE121 := gw_ HB hg; replace HB := bs_ HB hb; clear hb hbox hg; obtain ⟨hcz33_0, hcz33_1, hcz33_2, hfz33_0, hfz33_1, hfz33_2⟩ := bc3_ BK121) | (go_at_call 65; (with_reducible refine (utf_Place.calls k a0 a1_0 false _ A3.out).mono ?_); rintro e w34 ⟨rfl, hb⟩; replace BK121 := bb_ BK121 hb; replace HB := bs_ HB hb; (try clear hb); (try clear hb2); (try clear hk); (try clear hi))))
  go_ret
  exact ⟨er_, hb_ HB⟩

/-! ### change_one: function 64 -/
def change_one.f (k : Nat) (a0 : ByteArray) (a1_0 : Int) (a1_1 : ByteArray) (a1_2 : ByteArray) : Option (ByteArray × Int) := (change_Fits.f k a0 a1_0 a1_1 a1_2).bind fun t127 => (if t127 = true then (if 0 ≤ a1_0 then (if a1_0 ≤ (a0.size : Int) then (if (a0.extract 0 (a1_0 : Int).toNat).size + a1_2.size ≤ 9223372036854775807 then (if 0 ≤ (wrap64 (a1_0 + (a1_1.size : Int))) then (if (wrap64 (a1_0 + (a1_1.size : Int))) ≤ (a0.size : Int) then (if ((a0.extract 0 (a1_0 : Int).toNat) ++ a1_2).size + (a0.extract ((wrap64 (a1_0 + (a1_1.size : Int))) : Int).toNat a0.size).size ≤ 9223372036854775807 then (if ((((a0.extract 0 (a1_0 : Int).toNat) ++ a1_2) ++ (a0.extract ((wrap64 (a1_0 + (a1_1.size : Int))) : Int).toNat a0.size)).size : Int) > 4096 then (some ((⟨#[]⟩ : ByteArray), 8)) else (some (((a0.extract 0 (a1_0 : Int).toNat) ++ a1_2) ++ (a0.extract ((wrap64 (a1_0 + (a1_1.size : Int))) : Int).toNat a0.size), 0))) else (none)) else (none)) else (none)) else (none)) else (none)) else (none)) else (some ((⟨#[]⟩ : ByteArray), 1)))
theorem change_one.mono : ∀ a0 a1 a2 a3 k, LeO (change_one.f k a0 a1 a2 a3) (change_one.f (k + 1) a0 a1 a2 a3) := by
 intro a0 a1 a2 a3 k
 unfold change_one.f
 repeat' first
   | (with_reducible exact change_Fits.mono _ _ _ _ _)
   | (with_reducible exact LeO.refl _)
   | (with_reducible exact LeO.none _)
   | (with_reducible refine LeO.ite ?_ ?_)
   | (with_reducible refine LeO.bind ?_ (fun _ => ?_))
   | exact change_Fits.mono _ _ _ _ _
   | exact LeO.none _
   | refine LeO.ite ?_ ?_
   | refine LeO.bind ?_ (fun _ => ?_)
set_option maxHeartbeats 8000000 in
set_option maxRecDepth 100000 in
theorem change_one.calls (k : Nat) (a0 : ByteArray) (a1_0 : Int) (a1_1 : ByteArray) (a1_2 : ByteArray) (r1 : ByteArray) (r2 : Int) (w : World) (h : change_one.f k a0 a1_0 a1_1 a1_2 = some (r1, r2)) :
  Calls Try.prog 64 #[.string a0, .agg #[.int .i64 a1_0, .string a1_1, .string a1_2]] w fun e w' => e = .returned (.tuple #[.string r1, .int .i64 r2]) ∧ Below w.heap.size w w' := by
 have hu24 := Try.underlying24
 have HB := Aside0.mk (Below.refl w.heap.size w)
 have H : ((change_Fits.f k a0 a1_0 a1_1 a1_2).bind fun t127 => (if t127 = true then (if 0 ≤ a1_0 then (if a1_0 ≤ (a0.size : Int) then (if (a0.extract 0 (a1_0 : Int).toNat).size + a1_2.size ≤ 9223372036854775807 then (if 0 ≤ (wrap64 (a1_0 + (a1_1.size : Int))) then (if (wrap64 (a1_0 + (a1_1.size : Int))) ≤ (a0.size : Int) then (if ((a0.extract 0 (a1_0 : Int).toNat) ++ a1_2).size + (a0.extract ((wrap64 (a1_0 + (a1_1.size : Int))) : Int).toNat a0.size).size ≤ 9223372036854775807 then (if ((((a0.extract 0 (a1_0 : Int).toNat) ++ a1_2) ++ (a0.extract ((wrap64 (a1_0 + (a1_1.size : Int))) : Int).toNat a0.size)).size : Int) > 4096 then (some ((⟨#[]⟩ : ByteArray), 8)) else (some (((a0.extract 0 (a1_0 : Int).toNat) ++ a1_2) ++ (a0.extract ((wrap64 (a1_0 + (a1_1.size : Int))) : Int).toNat a0.size), 0))) else (none)) else (none)) else (none)) else (none)) else (none)) else (none)) else (some ((⟨#[]⟩ : ByteArray), 1)))) = some (r1, r2) := h
 clear h
 replace H := Option.bind_eq_some_iff.mp H
 obtain ⟨t127, A30, H⟩ := H
 replace H : (if t127 = true then (if 0 ≤ a1_0 then (if a1_0 ≤ (a0.size : Int) then (if (a0.extract 0 (a1_0 : Int).toNat).size + a1_2.size ≤ 9223372036854775807 then (if 0 ≤ (wrap64 (a1_0 + (a1_1.size : Int))) then (if (wrap64 (a1_0 + (a1_1.size : Int))) ≤ (a0.size : Int) then (if ((a0.extract 0 (a1_0 : Int).toNat) ++ a1_2).size + (a0.extract ((wrap64 (a1_0 + (a1_1.size : Int))) : Int).toNat a0.size).size ≤ 9223372036854775807 then (if ((((a0.extract 0 (a1_0 : Int).toNat) ++ a1_2) ++ (a0.extract ((wrap64 (a1_0 + (a1_1.size : Int))) : Int).toNat a0.size)).size : Int) > 4096 then (some ((⟨#[]⟩ : ByteArray), 8)) else (some (((a0.extract 0 (a1_0 : Int).toNat) ++ a1_2) ++ (a0.extract ((wrap64 (a1_0 + (a1_1.size : Int))) : Int).toNat a0.size), 0))) else (none)) else (none)) else (none)) else (none)) else (none)) else (none)) else (some ((⟨#[]⟩ : ByteArray), 1))) = some (r1, r2) := H
 have A3 := Aside0.mk A30
 clear A30
 by_cases c4 : t127 = true
 ·subst c4
  have H1 : (if 0 ≤ a1_0 then (if a1_0 ≤ (a0.size : Int) then (if (a0.extract 0 (a1_0 : Int).toNat).size + a1_2.size ≤ 9223372036854775807 then (if 0 ≤ (wrap64 (a1_0 + (a1_1.size : Int))) then (if (wrap64 (a1_0 + (a1_1.size : Int))) ≤ (a0.size : Int) then (if ((a0.extract 0 (a1_0 : Int).toNat) ++ a1_2).size + (a0.extract ((wrap64 (a1_0 + (a1_1.size : Int))) : Int).toNat a0.size).size ≤ 9223372036854775807 then (if ((((a0.extract 0 (a1_0 : Int).toNat) ++ a1_2) ++ (a0.extract ((wrap64 (a1_0 + (a1_1.size : Int))) : Int).toNat a0.size)).size : Int) > 4096 then (some ((⟨#[]⟩ : ByteArray), 8)) else (some (((a0.extract 0 (a1_0 : Int).toNat) ++ a1_2) ++ (a0.extract ((wrap64 (a1_0 + (a1_1.size : Int))) : Int).toNat a0.size), 0))) else (none)) else (none)) else (none)) else (none)) else (none)) else (none)) = some (r1, r2) := by rw [if_pos rfl] at H; exact H
  clear H
  have H := H1
  clear H1
  by_cases c5 : 0 ≤ a1_0
  ·rw [if_pos c5] at H
   have c5b0 := eq_true c5
   try (have c5b0x := c5b0; simp only [ByteArray.size_extract, Nat.min_self] at c5b0x)
   have c5b1 : decide (0 ≤ a1_0) = true := decide_eq_true c5
   clear c5
   by_cases c6 : a1_0 ≤ (a0.size : Int)
   ·rw [if_pos c6] at H
    have c6b0 := eq_true c6
    try (have c6b0x := c6b0; simp only [ByteArray.size_extract, Nat.min_self] at c6b0x)
    have c6b1 : decide (a1_0 ≤ (a0.size : Int)) = true := decide_eq_true c6
    clear c6
    by_cases c7 : (a0.extract 0 (a1_0 : Int).toNat).size + a1_2.size ≤ 9223372036854775807
    ·rw [if_pos c7] at H
     have c7b0 := eq_true c7
     try (have c7b0x := c7b0; simp only [ByteArray.size_extract, Nat.min_self] at c7b0x)
     have c7b1 : decide ((a0.extract 0 (a1_0 : Int).toNat).size + a1_2.size ≤ 9223372036854775807) = true := decide_eq_true c7
     try (have c7b1x := c7b1; simp [-decide_eq_true_eq, -decide_eq_false_iff_not, c5b0, c6b0, c7b0] at c7b1x)
     try have c7b2 : (9223372036854775807 < (a0.extract 0 (a1_0 : Int).toNat).size + a1_2.size) = False := eq_false (Nat.not_lt.2 c7)
     obtain ⟨ji8, hji8⟩ : ∃ j_ : Int, (wrap64 (a1_0 + (a1_1.size : Int))) = j_ := ⟨_, rfl⟩
     replace H : (if 0 ≤ (ji8) then (if (ji8) ≤ (a0.size : Int) then (if ((a0.extract 0 (a1_0 : Int).toNat) ++ a1_2).size + (a0.extract ((ji8) : Int).toNat a0.size).size ≤ 9223372036854775807 then (if ((((a0.extract 0 (a1_0 : Int).toNat) ++ a1_2) ++ (a0.extract ((ji8) : Int).toNat a0.size)).size : Int) > 4096 then (some ((⟨#[]⟩ : ByteArray), 8)) else (some (((a0.extract 0 (a1_0 : Int).toNat) ++ a1_2) ++ (a0.extract ((ji8) : Int).toNat a0.size), 0))) else (none)) else (none)) else (none)) = some (r1, r2) := by first | (rw [hji8] at H; exact H) | (simp only [hji8] at H ⊢; exact H)
     (try rw [hji8] at A3)
     have hji8w : (IntKind.i64.wrap (a1_0 + (a1_1.size : Int))) = ji8 := (i64_w _).trans hji8
     try (have hji8x := hji8; simp only [ByteArray.size_extract, Nat.min_self] at hji8x)
     by_cases c9 : 0 ≤ (ji8)
     ·rw [if_pos c9] at H
      have c9b0 := eq_true c9
      try (have c9b0x := c9b0; simp only [ByteArray.size_extract, Nat.min_self] at c9b0x)
      have c9b1 : decide (0 ≤ (ji8)) = true := decide_eq_true c9
      clear c9
      by_cases c10 : (ji8) ≤ (a0.size : Int)
      ·rw [if_pos c10] at H
       have c10b0 := eq_true c10
       try (have c10b0x := c10b0; simp only [ByteArray.size_extract, Nat.min_self] at c10b0x)
       have c10b1 : decide ((ji8) ≤ (a0.size : Int)) = true := decide_eq_true c10
       clear c10
       by_cases c11 : ((a0.extract 0 (a1_0 : Int).toNat) ++ a1_2).size + (a0.extract ((ji8) : Int).toNat a0.size).size ≤ 9223372036854775807
       ·rw [if_pos c11] at H
        have c11b0 := eq_true c11
        try (have c11b0x := c11b0; simp only [ByteArray.size_extract, Nat.min_self] at c11b0x)
        have c11b1 : decide (((a0.extract 0 (a1_0 : Int).toNat) ++ a1_2).size + (a0.extract ((ji8) : Int).toNat a0.size).size ≤ 9223372036854775807) = true := decide_eq_true c11
        try (have c11b1x := c11b1; simp [-decide_eq_true_eq, -decide_eq_false_iff_not, c5b0, c6b0, c7b0, c9b0, c10b0, c11b0] at c11b1x)
        try have c11b2 : (9223372036854775807 < ((a0.extract 0 (a1_0 : Int).toNat) ++ a1_2).size + (a0.extract ((ji8) : Int).toNat a0.size).size) = False := eq_false (Nat.not_lt.2 c11)
        by_cases c12 : ((((a0.extract 0 (a1_0 : Int).toNat) ++ a1_2) ++ (a0.extract ((ji8) : Int).toNat a0.size)).size : Int) > 4096
        ·rw [if_pos c12] at H
         have c12b0 : decide (4096 < ((((a0.extract 0 (a1_0 : Int).toNat) ++ a1_2) ++ (a0.extract ((ji8) : Int).toNat a0.size)).size : Int)) = true := decide_eq_true c12
         try (have c12b0x := c12b0; simp [-decide_eq_true_eq, -decide_eq_false_iff_not, c5b0, c6b0, c7b0, c9b0, c10b0, c11b0] at c12b0x)
         have c12b1 : decide (4096 < (((a0.extract 0 (a1_0 : Int).toNat) ++ a1_2) ++ (a0.extract ((ji8) : Int).toNat a0.size)).size) = true := decide_eq_true (by omega)
         try (have c12b1x := c12b1; simp [-decide_eq_true_eq, -decide_eq_false_iff_not, c5b0, c6b0, c7b0, c9b0, c10b0, c11b0] at c12b1x)
         clear c12
         simp only [Option.some.injEq, Prod.mk.injEq] at H
         obtain ⟨rfl, rfl⟩ := H
         go_enter Try.func64, Try.ntmps64
         go_wp2_with (first | ((with_reducible refine gate_dst (N := 3) rfl ?_); refine be_ (N := 3) (cs := #[.int .i64 a1_0, .string a1_1, .string a1_2]) (t := 24) (h := ?_); intro gb126 hg w13 hbox hb; have BK126 := Aside0.mk (hbox); have GW126 := gw_ HB hg; have GE126 := gw_ HB hg; replace HB := bs_ HB hb; clear hb hbox hg; obtain ⟨hcz14_0, hcz14_1, hcz14_2, hfz14_0, hfz14_1, hfz14_2⟩ := bc3_ BK126) | (go_at_call 23; (with_reducible refine (change_Fits.calls k a0 a1_0 a1_1 a1_2 true _ A3.out).mono ?_); rintro e w15 ⟨rfl, hb⟩; replace BK126 := bb_ BK126 hb; replace HB := bs_ HB hb; (try clear hb); (try clear hb2); (try clear hk); (try clear hi); obtain ⟨hcz16_0, hcz16_1, hcz16_2, hfz16_0, hfz16_1, hfz16_2⟩ := bc3_ BK126))
         repeat (go_quiet (first | ((with_reducible refine gate_dst (N := 3) rfl ?_); refine be_ (N := 3) (cs := #[.int .i64 a1_0, .string a1_1, .string a1_2]) (t := 24) (h := ?_); intro gb126 hg w13 hbox hb; have BK126 := Aside0.mk (hbox); have GW126 := gw_ HB hg; have GE126 := gw_ HB hg; replace HB := bs_ HB hb; clear hb hbox hg; obtain ⟨hcz14_0, hcz14_1, hcz14_2, hfz14_0, hfz14_1, hfz14_2⟩ := bc3_ BK126) | (go_at_call 23; (with_reducible refine (change_Fits.calls k a0 a1_0 a1_1 a1_2 true _ A3.out).mono ?_); rintro e w15 ⟨rfl, hb⟩; replace BK126 := bb_ BK126 hb; replace HB := bs_ HB hb; (try clear hb); (try clear hb2); (try clear hk); (try clear hi); obtain ⟨hcz16_0, hcz16_1, hcz16_2, hfz16_0, hfz16_1, hfz16_2⟩ := bc3_ BK126)); try go_wp2_with (first | ((with_reducible refine gate_dst (N := 3) rfl ?_); refine be_ (N := 3) (cs := #[.int .i64 a1_0, .string a1_1, .string a1_2]) (t := 24) (h := ?_); intro gb126 hg w13 hbox hb; have BK126 := Aside0.mk (hbox); have GW126 := gw_ HB hg; have GE126 := gw_ HB hg; replace HB := bs_ HB hb; clear hb hbox hg; obtain ⟨hcz14_0, hcz14_1, hcz14_2, hfz14_0, hfz14_1, hfz14_2⟩ := bc3_ BK126) | (go_at_call 23; (with_reducible refine (change_Fits.calls k a0 a1_0 a1_1 a1_2 true _ A3.out).mono ?_); rintro e w15 ⟨rfl, hb⟩; replace BK126 := bb_ BK126 hb; replace HB := bs_ HB hb; (try clear hb); (try clear hb2); (try clear hk); (try clear hi); obtain ⟨hcz16_0, hcz16_1, hcz16_2, hfz16_0, hfz16_1, hfz16_2⟩ := bc3_ BK126)))
         go_ret2
         exact ⟨by first | rfl | (simp [errW_none, errW_some] <;> rfl) | (simp only [← hji8]; first | rfl | (simp [errW_none, errW_some] <;> rfl)) | (simp [*, errW_none, errW_some] <;> rfl), hb_ HB⟩
        ·rw [if_neg c12] at H
         have c12b0 : decide (4096 < ((((a0.extract 0 (a1_0 : Int).toNat) ++ a1_2) ++ (a0.extract ((ji8) : Int).toNat a0.size)).size : Int)) = false := decide_eq_false c12
         try (have c12b0x := c12b0; simp [-decide_eq_true_eq, -decide_eq_false_iff_not, c5b0, c6b0, c7b0, c9b0, c10b0, c11b0] at c12b0x)
         have c12b1 : decide (4096 < (((a0.extract 0 (a1_0 : Int).toNat) ++ a1_2) ++ (a0.extract ((ji8) : Int).toNat a0.size)).size) = false := decide_eq_false (by omega)
         try (have c12b1x := c12b1; simp [-decide_eq_true_eq, -decide_eq_false_iff_not, c5b0, c6b0, c7b0, c9b0, c10b0, c11b0] at c12b1x)
         clear c12
         simp only [Option.some.injEq, Prod.mk.injEq] at H
         obtain ⟨rfl, rfl⟩ := H
         go_enter Try.func64, Try.ntmps64
         go_wp2_with (first | ((with_reducible refine gate_dst (N := 3) rfl ?_); refine be_ (N := 3) (cs := #[.int .i64 a1_0, .string a1_1, .string a1_2]) (t := 24) (h := ?_); intro gb126 hg w17 hbox hb; have BK126 := Aside0.mk (hbox); have GW126 := gw_ HB hg; have GE126 := gw_ HB hg; replace HB := bs_ HB hb; clear hb hbox hg; obtain ⟨hcz18_0, hcz18_1, hcz18_2, hfz18_0, hfz18_1, hfz18_2⟩ := bc3_ BK126) | (go_at_call 23; (with_reducible refine (change_Fits.calls k a0 a1_0 a1_1 a1_2 true _ A3.out).mono ?_); rintro e w19 ⟨rfl, hb⟩; replace BK126 := bb_ BK126 hb; replace HB := bs_ HB hb; (try clear hb); (try clear hb2); (try clear hk); (try clear hi); obtain ⟨hcz20_0, hcz20_1, hcz20_2, hfz20_0, hfz20_1, hfz20_2⟩ := bc3_ BK126))
         repeat (go_quiet (first | ((with_reducible refine gate_dst (N := 3) rfl ?_); refine be_ (N := 3) (cs := #[.int .i64 a1_0, .string a1_1, .string a1_2]) (t := 24) (h := ?_); intro gb126 hg w17 hbox hb; have BK126 := Aside0.mk (hbox); have GW126 := gw_ HB hg; have GE126 := gw_ HB hg; replace HB := bs_ HB hb; clear hb hbox hg; obtain ⟨hcz18_0, hcz18_1, hcz18_2, hfz18_0, hfz18_1, hfz18_2⟩ := bc3_ BK126) | (go_at_call 23; (with_reducible refine (change_Fits.calls k a0 a1_0 a1_1 a1_2 true _ A3.out).mono ?_); rintro e w19 ⟨rfl, hb⟩; replace BK126 := bb_ BK126 hb; replace HB := bs_ HB hb; (try clear hb); (try clear hb2); (try clear hk); (try clear hi); obtain ⟨hcz20_0, hcz20_1, hcz20_2, hfz20_0, hfz20_1, hfz20_2⟩ := bc3_ BK126)); try go_wp2_with (first | ((with_reducible refine gate_dst (N := 3) rfl ?_); refine be_ (N := 3) (cs := #[.int .i64 a1_0, .string a1_1, .string a1_2]) (t := 24) (h := ?_); intro gb126 hg w17 hbox hb; have BK126 := Aside0.mk (hbox); have GW126 := gw_ HB hg; have GE126 := gw_ HB hg; replace HB := bs_ HB hb; clear hb hbox hg; obtain ⟨hcz18_0, hcz18_1, hcz18_2, hfz18_0, hfz18_1, hfz18_2⟩ := bc3_ BK126) | (go_at_call 23; (with_reducible refine (change_Fits.calls k a0 a1_0 a1_1 a1_2 true _ A3.out).mono ?_); rintro e w19 ⟨rfl, hb⟩; replace BK126 := bb_ BK126 hb; replace HB := bs_ HB hb; (try clear hb); (try clear hb2); (try clear hk); (try clear hi); obtain ⟨hcz20_0, hcz20_1, hcz20_2, hfz20_0, hfz20_1, hfz20_2⟩ := bc3_ BK126)))
         go_ret2
         exact ⟨by first | rfl | (simp [errW_none, errW_some] <;> rfl) | (simp only [← hji8]; first | rfl | (simp [errW_none, errW_some] <;> rfl)) | (simp [*, errW_none, errW_some] <;> rfl), hb_ HB⟩
       ·rw [if_neg c11] at H
        exact absurd H (by simp)
      ·rw [if_neg c10] at H
       exact absurd H (by simp)
     ·rw [if_neg c9] at H
      exact absurd H (by simp)
    ·rw [if_neg c7] at H
     exact absurd H (by simp)
   ·rw [if_neg c6] at H
    exact absurd H (by simp)
  ·rw [if_neg c5] at H
   exact absurd H (by simp)
 ·replace c4 := Bool.eq_false_iff.mpr c4
  subst c4
  have H1 : (some ((⟨#[]⟩ : ByteArray), 1)) = some (r1, r2) := by rw [if_neg (show ¬ (false = true) by decide)] at H; exact H
  clear H
  have H := H1
  clear H1
  simp only [Option.some.injEq, Prod.mk.injEq] at H
  obtain ⟨rfl, rfl⟩ := H
  go_enter Try.func64, Try.ntmps64
  go_wp2_with (first | ((with_reducible refine gate_dst (N := 3) rfl ?_); refine be_ (N := 3) (cs := #[.int .i64 a1_0, .string a1_1, .string a1_2]) (t := 24) (h := ?_); intro gb126 hg w21 hbox hb; have BK126 := Aside0.mk (hbox); have GW126 := gw_ HB hg; have GE126 := gw_ HB hg; replace HB := bs_ HB hb; clear hb hbox hg; obtain ⟨hcz22_0, hcz22_1, hcz22_2, hfz22_0, hfz22_1, hfz22_2⟩ := bc3_ BK126) | (go_at_call 23; (with_reducible refine (change_Fits.calls k a0 a1_0 a1_1 a1_2 false _ A3.out).mono ?_); rintro e w23 ⟨rfl, hb⟩; replace BK126 := bb_ BK126 hb; replace HB := bs_ HB hb; (try clear hb); (try clear hb2); (try clear hk); (try clear hi)))
  repeat (go_quiet (first | ((with_reducible refine gate_dst (N := 3) rfl ?_); refine be_ (N := 3) (cs := #[.int .i64 a1_0, .string a1_1, .string a1_2]) (t := 24) (h := ?_); intro gb126 hg w21 hbox hb; have BK126 := Aside0.mk (hbox); have GW126 := gw_ HB hg; have GE126 := gw_ HB hg; replace HB := bs_ HB hb; clear hb hbox hg; obtain ⟨hcz22_0, hcz22_1, hcz22_2, hfz22_0, hfz22_1, hfz22_2⟩ := bc3_ BK126) | (go_at_call 23; (with_reducible refine (change_Fits.calls k a0 a1_0 a1_1 a1_2 false _ A3.out).mono ?_); rintro e w23 ⟨rfl, hb⟩; replace BK126 := bb_ BK126 hb; replace HB := bs_ HB hb; (try clear hb); (try clear hb2); (try clear hk); (try clear hi))); try go_wp2_with (first | ((with_reducible refine gate_dst (N := 3) rfl ?_); refine be_ (N := 3) (cs := #[.int .i64 a1_0, .string a1_1, .string a1_2]) (t := 24) (h := ?_); intro gb126 hg w21 hbox hb; have BK126 := Aside0.mk (hbox); have GW126 := gw_ HB hg; have GE126 := gw_ HB hg; replace HB := bs_ HB hb; clear hb hbox hg; obtain ⟨hcz22_0, hcz22_1, hcz22_2, hfz22_0, hfz22_1, hfz22_2⟩ := bc3_ BK126) | (go_at_call 23; (with_reducible refine (change_Fits.calls k a0 a1_0 a1_1 a1_2 false _ A3.out).mono ?_); rintro e w23 ⟨rfl, hb⟩; replace BK126 := bb_ BK126 hb; replace HB := bs_ HB hb; (try clear hb); (try clear hb2); (try clear hk); (try clear hi))))
  go_ret2
  exact ⟨er_, hb_ HB⟩

/-! ### change_Do: function 21 -/
def change_Do.l0 : Nat → ByteArray → List (S24) → Int → Int → Option (ByteArray × Int)
 | 0, _, _, _, _ => none
 | k + 1, x0, x10, x11, x12 => if x12 < x11 then (if 0 ≤ x12 then (if x12 < (x10.length : Int) then ((change_one.f k x0 ((rd_T24 x10 x12).f0) ((rd_T24 x10 x12).f1) ((rd_T24 x10 x12).f2)).bind fun bt130 => (if bt130.2 = 0 then (change_Do.l0 k bt130.1 x10 x11 (wrap64 (x12 + 1))) else (some ((⟨#[]⟩ : ByteArray), bt130.2)))) else (none)) else (none)) else (some (x0, 0))
def change_Do.f (k : Nat) (a0 : ByteArray) (l1 : List (S24)) : Option (ByteArray × Int) := change_Do.l0 k a0 l1 (l1.length : Int) 0
theorem change_Do.mono_l : ∀ k, (∀ y0 y1 y2 y3, LeO (change_Do.l0 k y0 y1 y2 y3) (change_Do.l0 (k + 1) y0 y1 y2 y3))
 | 0 => fun _ _ _ _ r h => by simp [change_Do.l0] at h
 | k + 1 => by
  have ih0 := change_Do.mono_l k
  ·intro y0 y1 y2 y3
   unfold change_Do.l0
   repeat' first
   | (with_reducible exact ih0 _ _ _ _)
   | (with_reducible exact change_one.mono _ _ _ _ _)
   | (with_reducible exact LeO.refl _)
   | (with_reducible exact LeO.none _)
   | (with_reducible refine LeO.ite ?_ ?_)
   | (with_reducible refine LeO.bind ?_ (fun _ => ?_))
   | exact ih0 _ _ _ _
   | exact change_one.mono _ _ _ _ _
   | exact LeO.none _
   | refine LeO.ite ?_ ?_
   | refine LeO.bind ?_ (fun _ => ?_)
theorem change_Do.mono : ∀ a0 a1 k, LeO (change_Do.f k a0 a1) (change_Do.f (k + 1) a0 a1) := by
 intro a0 a1 k
 have ih0 := change_Do.mono_l k
 unfold change_Do.f
 repeat' first
   | (with_reducible exact ih0 _ _ _ _)
   | (with_reducible exact change_one.mono _ _ _ _ _)
   | (with_reducible exact LeO.refl _)
   | (with_reducible exact LeO.none _)
   | (with_reducible refine LeO.ite ?_ ?_)
   | (with_reducible refine LeO.bind ?_ (fun _ => ?_))
   | exact ih0 _ _ _ _
   | exact change_one.mono _ _ _ _ _
   | exact LeO.none _
   | refine LeO.ite ?_ ?_
   | refine LeO.bind ?_ (fun _ => ?_)
set_option maxHeartbeats 8000000 in
set_option maxRecDepth 100000 in
theorem change_Do.calls (k : Nat) (a0 : ByteArray) (A1 : Option Addr) (c1 : Nat) (l1 : List (S24)) (r1 : ByteArray) (r2 : Int) (w : World) (hr1 : Kd.C k24 w A1 l1.length l1) (hc1 : l1.length ≤ c1) (h : change_Do.f k a0 l1 = some (r1, r2)) :
  Calls Try.prog 21 #[.string a0, .slice A1 l1.length c1] w fun e w' => e = .returned (.tuple #[.string r1, .int .i64 r2]) ∧ Below w.heap.size w w' := by
 have hu24 := Try.underlying24
 have HR1 := Aside0.mk hr1
 have HC1 := Aside0.mk hc1
 clear hr1 hc1
 have HB := Aside0.mk (Below.refl w.heap.size w)
 have H : (change_Do.l0 k a0 l1 (l1.length : Int) 0) = some (r1, r2) := h
 clear h
 have H' := Aside0.mk H
 clear H
 go_enter Try.func21, Try.ntmps21
 go_wp2
 go_loopg [0, 12] k (fun kq v0 v12 w' => ∃ (x0_1 : ByteArray) (x12_1 : Int), v0 = .string x0_1 ∧ v12 = .int .i64 x12_1 ∧ Aside0 (change_Do.l0 kq x0_1 l1 (l1.length : Int) x12_1 = some (r1, r2)) ∧ Aside0 (kq ≤ k) ∧ Aside0 (Below w.heap.size w w'))
 case atStart => exact ⟨(a0), (0), es_, es_, H', ⟨Nat.le_refl _⟩, ⟨hb_ HB⟩⟩
 case round =>
  clear H'
  obtain ⟨x0_1, x12_1, rfl, rfl, HA, HK1, HB⟩ := hrel
  cases gk with
  | zero => exact absurd HA.out (by simp [change_Do.l0])
  | succ k1 =>
   have H := HA.out
   clear HA
   simp only [change_Do.l0] at H
   by_cases c3 : x12_1 < (l1.length : Int)
   ·rw [if_pos c3] at H
    have c3b0 : decide (x12_1 < (l1.length : Int)) = true := decide_eq_true c3
    clear c3
    by_cases c4 : 0 ≤ x12_1
    ·rw [if_pos c4] at H
     have c4b0 : decide (0 ≤ x12_1) = true := decide_eq_true c4
     clear c4
     by_cases c5 : x12_1 < (l1.length : Int)
     ·rw [if_pos c5] at H
      have c5b0 : decide (x12_1 < (l1.length : Int)) = true := decide_eq_true c5
      clear c5
      replace H := Option.bind_eq_some_iff.mp H
      obtain ⟨⟨t130, t131⟩, A60, H⟩ := H
      replace H : (if t131 = 0 then (change_Do.l0 k1 t130 l1 (l1.length : Int) (wrap64 (x12_1 + 1))) else (some ((⟨#[]⟩ : ByteArray), t131))) = some (r1, r2) := H
      have A6 := Aside0.mk A60
      clear A60
      by_cases c7 : t131 = 0
      ·rw [if_pos c7] at H
       have c7b0 : (t131 == 0) = true := beq_iff_eq.mpr c7
       have c7b1 : (t131 != 0) = false := bne_eq_false_iff_eq.mpr c7
       clear c7
       have H' := Aside0.mk H
       clear H
       have p128 : 0 ≤ (x12_1 : Int) := of_decide_eq_true as_
       have q128 : x12_1 < (l1.length : Int) := of_decide_eq_true as_
       obtain ⟨ad128, e128, hx128_0, hx128_1, hx128_2⟩ := at_T24b HR1 HB x12_1 p128 q128
       cases e128
       replace p128 := eq_true p128
       replace q128 := eq_true q128
       go_wp2_with (first | ((with_reducible refine gate_dst (N := 7) rfl ?_); refine be_ (N := 7) (cs := #[.int .i64 0, .string (⟨#[]⟩ : ByteArray), .string (⟨#[]⟩ : ByteArray)]) (t := 24) (h := ?_); intro gb129 hg w8 hbox hb; have BK129 := Aside0.mk (hbox); have GW129 := gw_ HB hg; have GE129 := gw_ HB hg; replace HB := bs_ HB hb; clear hb hbox hg; obtain ⟨hcz9_0, hcz9_1, hcz9_2, hfz9_0, hfz9_1, hfz9_2⟩ := bc3_ BK129) | ((with_reducible refine gate_callee (f := 64) rfl ?_); refine ge_ (some 19) rfl rfl Try.func64 (by kernel_rfl) rfl #[.string x0_1, .agg #[.int .i64 ((rd_T24 l1 x12_1).f0), .string ((rd_T24 l1 x12_1).f1), .string ((rd_T24 l1 x12_1).f2)]] rfl (h := ?_); (with_reducible refine (change_one.calls k1 x0_1 ((rd_T24 l1 x12_1).f0) ((rd_T24 l1 x12_1).f1) ((rd_T24 l1 x12_1).f2) t130 t131 _ A6.out).mono ?_); rintro e w10 ⟨rfl, hb⟩; refine ⟨_, rfl, ?_⟩; replace BK129 := Aside0.mk (blk_below (g := gb129) (o := .cells #[.int .i64 ((rd_T24 l1 x12_1).f0), .string ((rd_T24 l1 x12_1).f1), .string ((rd_T24 l1 x12_1).f2)] 24 (0, 0)) (bp_ BK129.out) hb); replace HB := bs_ HB hb; (try clear hb); (try clear hb2); (try clear hk); (try clear hi)))
       go_roundg k1
       case measure => have := HK1.out; omega
       case rel => exact ⟨(t130), (wrap64 (x12_1 + 1)), es_, es_, H', ⟨by have := HK1.out; omega⟩, ⟨hb_ HB⟩⟩
      ·rw [if_neg c7] at H
       have c7b0 : (t131 == 0) = false := beq_eq_false_iff_ne.mpr c7
       have c7b1 : (t131 != 0) = true := bne_iff_ne.mpr c7
       simp only [Option.some.injEq, Prod.mk.injEq] at H
       obtain ⟨rfl, rfl⟩ := H
       have p128 : 0 ≤ (x12_1 : Int) := of_decide_eq_true as_
       have q128 : x12_1 < (l1.length : Int) := of_decide_eq_true as_
       obtain ⟨ad128, e128, hx128_0, hx128_1, hx128_2⟩ := at_T24b HR1 HB x12_1 p128 q128
       cases e128
       replace p128 := eq_true p128
       replace q128 := eq_true q128
       go_wp2_with (first | ((with_reducible refine gate_dst (N := 7) rfl ?_); refine be_ (N := 7) (cs := #[.int .i64 0, .string (⟨#[]⟩ : ByteArray), .string (⟨#[]⟩ : ByteArray)]) (t := 24) (h := ?_); intro gb129 hg w11 hbox hb; have BK129 := Aside0.mk (hbox); have GW129 := gw_ HB hg; have GE129 := gw_ HB hg; replace HB := bs_ HB hb; clear hb hbox hg; obtain ⟨hcz12_0, hcz12_1, hcz12_2, hfz12_0, hfz12_1, hfz12_2⟩ := bc3_ BK129) | ((with_reducible refine gate_callee (f := 64) rfl ?_); refine ge_ (some 19) rfl rfl Try.func64 (by kernel_rfl) rfl #[.string x0_1, .agg #[.int .i64 ((rd_T24 l1 x12_1).f0), .string ((rd_T24 l1 x12_1).f1), .string ((rd_T24 l1 x12_1).f2)]] rfl (h := ?_); (with_reducible refine (change_one.calls k1 x0_1 ((rd_T24 l1 x12_1).f0) ((rd_T24 l1 x12_1).f1) ((rd_T24 l1 x12_1).f2) t130 t131 _ A6.out).mono ?_); rintro e w13 ⟨rfl, hb⟩; refine ⟨_, rfl, ?_⟩; replace BK129 := Aside0.mk (blk_below (g := gb129) (o := .cells #[.int .i64 ((rd_T24 l1 x12_1).f0), .string ((rd_T24 l1 x12_1).f1), .string ((rd_T24 l1 x12_1).f2)] 24 (0, 0)) (bp_ BK129.out) hb); replace HB := bs_ HB hb; (try clear hb); (try clear hb2); (try clear hk); (try clear hi)))
       go_ret2
       exact ⟨er_, hb_ HB⟩
     ·rw [if_neg c5] at H
      exact absurd H (by simp)
    ·rw [if_neg c4] at H
     exact absurd H (by simp)
   ·rw [if_neg c3] at H
    have c3b0 : decide (x12_1 < (l1.length : Int)) = false := decide_eq_false c3
    clear c3
    simp only [Option.some.injEq, Prod.mk.injEq] at H
    obtain ⟨rfl, rfl⟩ := H
    go_wp2
    go_ret2
    exact ⟨er_, hb_ HB⟩

end Go.Proofs.Ytkiokimpblimcaa.PTreeKeeps
