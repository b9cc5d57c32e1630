/- Of the law calamus/calamuslaw13.KeyTexts: each function as a plain Lean function, with a proof that the call comes to it; the row. By wip/tpl/own_print.py. Conditions: none but the row's own. -/
import Derived.Test.YtealbonfaebikaaOKeyTextsx0
import Derived.Test.YtealbonfaebikaaOKeyTextsx3
namespace Go.Proofs.Ytealbonfaebikaa.PKeyTexts
open Go.RowKit Go.Proofs.YtealbonfaebikaaW.PrintWords Go.Proofs.YtealbonfaebikaaW.PrintLast Go.Proofs.YtealbonfaebikaaW.PrintMore
attribute [local go_sem] max2_int min2_int max_two min_two max_three min_three max_four min_four   -- for this text's walks alone
set_option linter.unusedVariables false
set_option linter.unusedSimpArgs false

/-! ### calamusref13_Parse: function 49 -/
mutual
def calamusref13_Parse.l0 : Nat → ByteArray → List Int → ByteArray → Int → Option (ByteArray × Int)
 | 0, _, _, _, _ => none
 | k + 1, x0, x4, x5, x6 => if x6 < (wrap64 ((x4.length : Int) - 1)) then (if 0 ≤ x6 then (if x6 < (x4.length : Int) then (if 0 ≤ (wrap64 (x6 + 1)) then (if (wrap64 (x6 + 1)) < (x4.length : Int) then (if 0 ≤ (rd x4 x6) then (if (rd x4 x6) ≤ (rd x4 (wrap64 (x6 + 1))) then (if (rd x4 (wrap64 (x6 + 1))) ≤ (x0.size : Int) then (if (x0.extract ((rd x4 x6) : Int).toNat ((rd x4 (wrap64 (x6 + 1))) : Int).toNat).toList = ([60] : List UInt8) then ((some (([(⟨#[8]⟩ : ByteArray), (⟨#[9]⟩ : ByteArray), (⟨#[13]⟩ : ByteArray), (⟨#[18]⟩ : ByteArray), (⟨#[21]⟩ : ByteArray), (⟨#[23]⟩ : ByteArray), (⟨#[27]⟩ : ByteArray), (⟨#[60]⟩ : ByteArray)] : List ByteArray) : List ByteArray)).bind fun y177 => (calamusref13_Parse.l1 k x0 x4 x5 x6 (⟨#[]⟩ : ByteArray) 1 y177 (y177.length : Int) 0)) else ((calamusref13_Sign.f k (x0.extract ((rd x4 x6) : Int).toNat ((rd x4 (wrap64 (x6 + 1))) : Int).toNat)).bind fun t186 => (if t186 = true then (if (x0.extract ((rd x4 x6) : Int).toNat ((rd x4 (wrap64 (x6 + 1))) : Int).toNat).toList = ([] : List UInt8) then (some ((⟨#[]⟩ : ByteArray), 3)) else (if x5.size + (x0.extract ((rd x4 x6) : Int).toNat ((rd x4 (wrap64 (x6 + 1))) : Int).toNat).size ≤ 9223372036854775807 then (calamusref13_Parse.l0 k x0 x4 (x5 ++ (x0.extract ((rd x4 x6) : Int).toNat ((rd x4 (wrap64 (x6 + 1))) : Int).toNat)) (wrap64 (x6 + 1))) else (none))) else (if ([] : List UInt8) = ([] : List UInt8) then (some ((⟨#[]⟩ : ByteArray), 3)) else (if x5.size + 0 ≤ 9223372036854775807 then (calamusref13_Parse.l0 k x0 x4 (x5 ++ (⟨#[]⟩ : ByteArray)) (wrap64 (x6 + 1))) else (none)))))) else (none)) else (none)) else (none)) else (none)) else (none)) else (none)) else (none)) else (some (x5, 0))
def calamusref13_Parse.l1 : Nat → ByteArray → List Int → ByteArray → Int → ByteArray → Int → List ByteArray → Int → Int → Option (ByteArray × Int)
 | 0, _, _, _, _, _, _, _, _, _ => none
 | k + 1, x0, x4, x5, x6, x7, x8, x35, x36, x37 => if x37 < x36 then (if 0 ≤ x37 then (if x37 < (x35.length : Int) then ((calamusref13_Name.f k (rdOf ByteArray.empty x35 x37)).bind fun t181 => (if 0 ≤ x6 then (if x6 < (x4.length : Int) then (if (wrap64 ((rd x4 x6) + (t181.size : Int))) ≤ (x0.size : Int) then (if 0 ≤ (rd x4 x6) then (if (rd x4 x6) ≤ (wrap64 ((rd x4 x6) + (t181.size : Int))) then ((calamusref13_Name.f k (rdOf ByteArray.empty x35 x37)).bind fun t185 => (if (x0.extract ((rd x4 x6) : Int).toNat ((wrap64 ((rd x4 x6) + (t181.size : Int))) : Int).toNat).toList = t185.toList then (calamusref13_Parse.l1 k x0 x4 x5 x6 (rdOf ByteArray.empty x35 x37) (t181.size : Int) x35 x36 (wrap64 (x37 + 1))) else (calamusref13_Parse.l1 k x0 x4 x5 x6 x7 x8 x35 x36 (wrap64 (x37 + 1))))) else (none)) else (none)) else (calamusref13_Parse.l1 k x0 x4 x5 x6 x7 x8 x35 x36 (wrap64 (x37 + 1)))) else (none)) else (none))) else (none)) else (none)) else (if x7.toList = ([] : List UInt8) then (some ((⟨#[]⟩ : ByteArray), 3)) else (if x5.size + x7.size ≤ 9223372036854775807 then (calamusref13_Parse.l0 k x0 x4 (x5 ++ x7) (wrap64 (x6 + x8))) else (none)))
end
def calamusref13_Parse.f (k : Nat) (a0 : ByteArray) : Option (ByteArray × Int) := (calamusref03_Split.f k a0).bind fun t172 => (if (t172.length : Int) = 0 then (some ((⟨#[]⟩ : ByteArray), 5)) else (calamusref13_Parse.l0 k a0 t172 (⟨#[]⟩ : ByteArray) 0))
theorem calamusref13_Parse.mono_l : ∀ k, (∀ y0 y1 y2 y3, LeO (calamusref13_Parse.l0 k y0 y1 y2 y3) (calamusref13_Parse.l0 (k + 1) y0 y1 y2 y3)) ∧ (∀ y0 y1 y2 y3 y4 y5 y6 y7 y8, LeO (calamusref13_Parse.l1 k y0 y1 y2 y3 y4 y5 y6 y7 y8) (calamusref13_Parse.l1 (k + 1) y0 y1 y2 y3 y4 y5 y6 y7 y8))
 | 0 => ⟨fun _ _ _ _ r h => by simp [calamusref13_Parse.l0] at h, fun _ _ _ _ _ _ _ _ _ r h => by simp [calamusref13_Parse.l1] at h⟩
 | k + 1 => by
  obtain ⟨ih0, ih1⟩ := calamusref13_Parse.mono_l k
  refine ⟨?_, ?_⟩
  ·intro y0 y1 y2 y3
   unfold calamusref13_Parse.l0
   repeat' first
   | (with_reducible exact ih0 _ _ _ _)
   | (with_reducible exact ih1 _ _ _ _ _ _ _ _ _)
   | (with_reducible exact calamusref03_Split.mono _ _)
   | (with_reducible exact calamusref13_Name.mono _ _)
   | (with_reducible exact calamusref13_Sign.mono _ _)
   | (with_reducible exact LeO.refl _)
   | (with_reducible exact LeO.none _)
   | (with_reducible refine LeO.ite ?_ ?_)
   | (with_reducible refine LeO.bind ?_ (fun _ => ?_))
   | exact ih0 _ _ _ _
   | exact ih1 _ _ _ _ _ _ _ _ _
   | exact calamusref03_Split.mono _ _
   | exact calamusref13_Name.mono _ _
   | exact calamusref13_Sign.mono _ _
   | exact LeO.none _
   | refine LeO.ite ?_ ?_
   | refine LeO.bind ?_ (fun _ => ?_)
  ·intro y0 y1 y2 y3 y4 y5 y6 y7 y8
   unfold calamusref13_Parse.l1
   repeat' first
   | (with_reducible exact ih0 _ _ _ _)
   | (with_reducible exact ih1 _ _ _ _ _ _ _ _ _)
   | (with_reducible exact calamusref03_Split.mono _ _)
   | (with_reducible exact calamusref13_Name.mono _ _)
   | (with_reducible exact calamusref13_Sign.mono _ _)
   | (with_reducible exact LeO.refl _)
   | (with_reducible exact LeO.none _)
   | (with_reducible refine LeO.ite ?_ ?_)
   | (with_reducible refine LeO.bind ?_ (fun _ => ?_))
   | exact ih0 _ _ _ _
   | exact ih1 _ _ _ _ _ _ _ _ _
   | exact calamusref03_Split.mono _ _
   | exact calamusref13_Name.mono _ _
   | exact calamusref13_Sign.mono _ _
   | exact LeO.none _
   | refine LeO.ite ?_ ?_
   | refine LeO.bind ?_ (fun _ => ?_)
theorem calamusref13_Parse.mono : ∀ a0 k, LeO (calamusref13_Parse.f k a0) (calamusref13_Parse.f (k + 1) a0) := by
 intro a0 k
 obtain ⟨ih0, ih1⟩ := calamusref13_Parse.mono_l k
 unfold calamusref13_Parse.f
 repeat' first
   | (with_reducible exact ih0 _ _ _ _)
   | (with_reducible exact ih1 _ _ _ _ _ _ _ _ _)
   | (with_reducible exact calamusref03_Split.mono _ _)
   | (with_reducible exact calamusref13_Name.mono _ _)
   | (with_reducible exact calamusref13_Sign.mono _ _)
   | (with_reducible exact LeO.refl _)
   | (with_reducible exact LeO.none _)
   | (with_reducible refine LeO.ite ?_ ?_)
   | (with_reducible refine LeO.bind ?_ (fun _ => ?_))
   | exact ih0 _ _ _ _
   | exact ih1 _ _ _ _ _ _ _ _ _
   | exact calamusref03_Split.mono _ _
   | exact calamusref13_Name.mono _ _
   | exact calamusref13_Sign.mono _ _
   | exact LeO.none _
   | refine LeO.ite ?_ ?_
   | refine LeO.bind ?_ (fun _ => ?_)
def calamusref13_Parse.T7 : Bool × List (List Nat × List Nat) := (true, [([], []), ([], []), ([], []), ([1, 2], [1, 2]), ([3], [3]), ([], []), ([], []), ([6], [6]), ([5, 7], [5, 7]), ([8], [8]), ([0, 4, 9], [0, 4, 9]), ([10, 0, 1, 2, 3, 4, 5, 6, 7, 8, 9, 10], [10])])
def calamusref13_Parse.B7 : List Nat := [0, 0, 0, 6, 14, 0, 0, 64, 224, 480, 1023, 2047]
theorem calamusref13_Parse.tab7 : rtab .any (opsOf Try.f49 7) = calamusref13_Parse.T7 := by kernel_rfl
theorem calamusref13_Parse.bits7 : waitsOk calamusref13_Parse.T7.2 calamusref13_Parse.B7 = true := by kernel_rfl
def calamusref13_Parse.T15 : Bool × List (List Nat × List Nat) := (true, [([], []), ([], []), ([0, 1], [0, 1]), ([2], [2]), ([], []), ([3, 4], [3, 4]), ([], []), ([6], [6]), ([5, 7], [5, 7]), ([8], [8]), ([9], [9]), ([9], [9]), ([9], [9]), ([11, 12, 9], [9, 11, 12]), ([13, 9], [9, 13]), ([9], [9]), ([9], [9]), ([15, 16, 9], [9, 15, 16]), ([17, 9], [9, 17]), ([9], [9]), ([18, 19, 9], [9, 18, 19]), ([10, 14, 20, 9], [9, 10, 14, 20]), ([9], [9]), ([22, 9, 9], [9, 22]), ([21, 23, 9], [9, 21, 23]), ([9, 24], [9, 24])])
def calamusref13_Parse.B15 : List Nat := [0, 0, 3, 7, 0, 31, 0, 64, 255, 511, 1023, 1023, 1023, 7167, 15359, 1023, 1023, 99327, 230399, 1023, 1016831, 2097151, 1023, 4195327, 16777215, 33554431]
theorem calamusref13_Parse.tab15 : rtab .any (opsOf Try.f49 15) = calamusref13_Parse.T15 := by kernel_rfl
theorem calamusref13_Parse.bits15 : waitsOk calamusref13_Parse.T15.2 calamusref13_Parse.B15 = true := by kernel_rfl
set_option maxHeartbeats 8000000 in
set_option maxRecDepth 100000 in
theorem calamusref13_Parse.calls (k : Nat) (a0 : ByteArray) (r1 : ByteArray) (r2 : Int) (w : World) (h : calamusref13_Parse.f k a0 = some (r1, r2)) :
  Calls Try.prog 49 #[.string a0] w fun e w' => e = .returned (.tuple #[.string r1, .int .i64 r2]) ∧ Below w.heap.size w w' := by
 have HB := Aside0.mk (Below.refl w.heap.size w)
 have H : ((calamusref03_Split.f k a0).bind fun t172 => (if (t172.length : Int) = 0 then (some ((⟨#[]⟩ : ByteArray), 5)) else (calamusref13_Parse.l0 k a0 t172 (⟨#[]⟩ : ByteArray) 0))) = some (r1, r2) := h
 clear h
 replace H := Option.bind_eq_some_iff.mp H
 obtain ⟨t172, A20, H⟩ := H
 replace H : (if (t172.length : Int) = 0 then (some ((⟨#[]⟩ : ByteArray), 5)) else (calamusref13_Parse.l0 k a0 t172 (⟨#[]⟩ : ByteArray) 0)) = some (r1, r2) := H
 have A2 := Aside0.mk A20
 clear A20
 by_cases c3 : (t172.length : Int) = 0
 ·rw [if_pos c3] at H
  have c3b0 : ((t172.length : Int) == 0) = true := beq_iff_eq.mpr c3
  have c3b1 : ((t172.length : Int) != 0) = false := bne_eq_false_iff_eq.mpr c3
  clear c3
  simp only [Option.some.injEq, Prod.mk.injEq] at H
  obtain ⟨rfl, rfl⟩ := H
  go_enter Try.func49, Try.ntmps49
  go_wp2_with (first | ((with_reducible refine gate_callee (f := 75) rfl ?_); refine ge_ (some 13) rfl rfl Try.func75 (by kernel_rfl) rfl #[.string a0] rfl (h := ?_); (with_reducible refine (calamusref03_Split.calls k a0 t172 _ A2.out).mono ?_); rintro e w4 ⟨v173, rfl, ho0, hb⟩; refine ⟨_, rfl, ?_⟩; have HO174 := Aside0.mk (Kd.R_lower ho0 (below_size (hb_ HB))); replace HB := bs_ HB hb; (try clear hb); (try clear hb2); (try clear hk); (try clear hi); (try clear ho0); obtain ⟨Ao5, co5, eo5⟩ := Kd.R_slice HO174.out; subst eo5))
  go_ret2
  exact ⟨er_, hb_ HB⟩
 ·rw [if_neg c3] at H
  have c3b0 : ((t172.length : Int) == 0) = false := beq_eq_false_iff_ne.mpr c3
  have c3b1 : ((t172.length : Int) != 0) = true := bne_iff_ne.mpr c3
  have c3b2 : ¬ (t172 = []) := fun h_ => c3 (by rw [h_]; rfl)
  have H' := Aside0.mk H
  clear H
  go_enter Try.func49, Try.ntmps49
  go_wp2_with (first | ((with_reducible refine gate_callee (f := 75) rfl ?_); refine ge_ (some 13) rfl rfl Try.func75 (by kernel_rfl) rfl #[.string a0] rfl (h := ?_); (with_reducible refine (calamusref03_Split.calls k a0 t172 _ A2.out).mono ?_); rintro e w6 ⟨v173, rfl, ho0, hb⟩; refine ⟨_, rfl, ?_⟩; have HO174 := Aside0.mk (Kd.R_lower ho0 (below_size (hb_ HB))); replace HB := bs_ HB hb; (try clear hb); (try clear hb2); (try clear hk); (try clear hi); (try clear ho0); obtain ⟨Ao7, co7, eo7⟩ := Kd.R_slice HO174.out; subst eo7))
  go_loopg [5, 6] k (fun kq v5 v6 w' => ∃ (x5_1 : ByteArray) (x6_1 : Int), v5 = .string x5_1 ∧ v6 = .int .i64 x6_1 ∧ Aside0 (calamusref13_Parse.l0 kq a0 t172 x5_1 x6_1 = some (r1, r2)) ∧ Aside0 (kq ≤ k) ∧ Aside0 (Kd.R (Kd.int .i64) 3 w' w.heap.size (fun _ => True) (.slice Ao7 t172.length co7) t172) ∧ Aside0 (Below w.heap.size w w'))
  case atStart => exact ⟨((⟨#[]⟩ : ByteArray)), (0), es_, es_, H', ⟨Nat.le_refl _⟩, ⟨rw_ HO174.out⟩, ⟨hb_ HB⟩⟩
  case round =>
   clear H'
   try clear c3
   try clear c3b0
   try clear c3b1
   try clear c3b2
   obtain ⟨x5_1, x6_1, rfl, rfl, HA, HK1, HO_4, HB⟩ := hrel
   cases gk with
   | zero => exact absurd HA.out (by simp [calamusref13_Parse.l0])
   | succ k1 =>
    have H := HA.out
    clear HA
    simp only [calamusref13_Parse.l0] at H
    by_cases c8 : x6_1 < (wrap64 ((t172.length : Int) - 1))
    ·rw [if_pos c8] at H
     have c8b0 : decide (x6_1 < (wrap64 ((t172.length : Int) - 1))) = true := decide_eq_true c8
     clear c8
     by_cases c9 : 0 ≤ x6_1
     ·rw [if_pos c9] at H
      have c9b0 : decide (0 ≤ x6_1) = true := decide_eq_true c9
      clear c9
      by_cases c10 : x6_1 < (t172.length : Int)
      ·rw [if_pos c10] at H
       have c10b0 : decide (x6_1 < (t172.length : Int)) = true := decide_eq_true c10
       clear c10
       obtain ⟨ji11, hji11⟩ : ∃ j_ : Int, (wrap64 (x6_1 + 1)) = j_ := ⟨_, rfl⟩
       replace H : (if 0 ≤ (ji11) then (if (ji11) < (t172.length : Int) then (if 0 ≤ (rd t172 x6_1) then (if (rd t172 x6_1) ≤ (rd t172 (ji11)) then (if (rd t172 (ji11)) ≤ (a0.size : Int) then (if (a0.extract ((rd t172 x6_1) : Int).toNat ((rd t172 (ji11)) : Int).toNat).toList = ([60] : List UInt8) then ((some (([(⟨#[8]⟩ : ByteArray), (⟨#[9]⟩ : ByteArray), (⟨#[13]⟩ : ByteArray), (⟨#[18]⟩ : ByteArray), (⟨#[21]⟩ : ByteArray), (⟨#[23]⟩ : ByteArray), (⟨#[27]⟩ : ByteArray), (⟨#[60]⟩ : ByteArray)] : List ByteArray) : List ByteArray)).bind fun y177 => (calamusref13_Parse.l1 k1 a0 t172 x5_1 x6_1 (⟨#[]⟩ : ByteArray) 1 y177 (y177.length : Int) 0)) else ((calamusref13_Sign.f k1 (a0.extract ((rd t172 x6_1) : Int).toNat ((rd t172 (ji11)) : Int).toNat)).bind fun t186 => (if t186 = true then (if (a0.extract ((rd t172 x6_1) : Int).toNat ((rd t172 (ji11)) : Int).toNat).toList = ([] : List UInt8) then (some ((⟨#[]⟩ : ByteArray), 3)) else (if x5_1.size + (a0.extract ((rd t172 x6_1) : Int).toNat ((rd t172 (ji11)) : Int).toNat).size ≤ 9223372036854775807 then (calamusref13_Parse.l0 k1 a0 t172 (x5_1 ++ (a0.extract ((rd t172 x6_1) : Int).toNat ((rd t172 (ji11)) : Int).toNat)) ji11) else (none))) else (if ([] : List UInt8) = ([] : List UInt8) then (some ((⟨#[]⟩ : ByteArray), 3)) else (if x5_1.size + 0 ≤ 9223372036854775807 then (calamusref13_Parse.l0 k1 a0 t172 (x5_1 ++ (⟨#[]⟩ : ByteArray)) ji11) else (none)))))) else (none)) else (none)) else (none)) else (none)) else (none)) = some (r1, r2) := by first | (rw [hji11] at H; exact H) | (simp only [hji11] at H ⊢; exact H)
       have hji11w : (IntKind.i64.wrap (x6_1 + 1)) = ji11 := (i64_w _).trans hji11
       try (have hji11x := hji11; simp only [ByteArray.size_extract, Nat.min_self] at hji11x)
       by_cases c12 : 0 ≤ (ji11)
       ·rw [if_pos c12] at H
        have c12b0 : decide (0 ≤ (ji11)) = true := decide_eq_true c12
        clear c12
        by_cases c13 : (ji11) < (t172.length : Int)
        ·rw [if_pos c13] at H
         have c13b0 : decide ((ji11) < (t172.length : Int)) = true := decide_eq_true c13
         clear c13
         by_cases c14 : 0 ≤ (rd t172 x6_1)
         ·rw [if_pos c14] at H
          have c14b0 := eq_true c14
          try (have c14b0x := c14b0; simp only [ByteArray.size_extract, Nat.min_self] at c14b0x)
          have c14b1 : decide (0 ≤ (rd t172 x6_1)) = true := decide_eq_true c14
          clear c14
          by_cases c15 : (rd t172 x6_1) ≤ (rd t172 (ji11))
          ·rw [if_pos c15] at H
           have c15b0 := eq_true c15
           try (have c15b0x := c15b0; simp only [ByteArray.size_extract, Nat.min_self] at c15b0x)
           have c15b1 : decide ((rd t172 x6_1) ≤ (rd t172 (ji11))) = true := decide_eq_true c15
           clear c15
           by_cases c16 : (rd t172 (ji11)) ≤ (a0.size : Int)
           ·rw [if_pos c16] at H
            have c16b0 := eq_true c16
            try (have c16b0x := c16b0; simp only [ByteArray.size_extract, Nat.min_self] at c16b0x)
            have c16b1 : decide ((rd t172 (ji11)) ≤ (a0.size : Int)) = true := decide_eq_true c16
            clear c16
            by_cases c17 : (a0.extract ((rd t172 x6_1) : Int).toNat ((rd t172 (ji11)) : Int).toNat).toList = ([60] : List UInt8)
            ·rw [if_pos c17] at H
             have c17b0 : ((a0.extract ((rd t172 x6_1) : Int).toNat ((rd t172 (ji11)) : Int).toNat).toList == ([60] : List UInt8)) = true := beq_iff_eq.mpr c17
             have c17b1 : ((a0.extract ((rd t172 x6_1) : Int).toNat ((rd t172 (ji11)) : Int).toNat).toList != ([60] : List UInt8)) = false := bne_eq_false_iff_eq.mpr c17
             clear c17
             obtain ⟨y177, hy177⟩ : ∃ y_ : List ByteArray, y_ = (([(⟨#[8]⟩ : ByteArray), (⟨#[9]⟩ : ByteArray), (⟨#[13]⟩ : ByteArray), (⟨#[18]⟩ : ByteArray), (⟨#[21]⟩ : ByteArray), (⟨#[23]⟩ : ByteArray), (⟨#[27]⟩ : ByteArray), (⟨#[60]⟩ : ByteArray)] : List ByteArray)) := ⟨_, rfl⟩
             replace H : (calamusref13_Parse.l1 k1 a0 t172 x5_1 x6_1 (⟨#[]⟩ : ByteArray) 1 y177 (y177.length : Int) 0) = some (r1, r2) := th_ H hy177
             have Ny177 := Aside0.mk hy177
             clear hy177
             have H' := Aside0.mk H
             clear H
             try go_wp2
             have n0_ := Aside0.mk (Kd.R_drew HO_4.out)
             have n1_ := Aside0.mk (below_drew1 HB.out)
             clear HO_4
             clear HB
             have HO_4 := n0_
             have HB := n1_
             clear n0_ n1_
             have p175 : 0 ≤ (x6_1 : Int) := of_decide_eq_true as_
             have q175 : x6_1 < (t172.length : Int) := of_decide_eq_true as_
             obtain ⟨ad175, e175, hx175_0⟩ := Kd.at_int (Kd.R_reads' HO_4.out).2.2 x6_1 p175 q175
             cases e175
             replace p175 := eq_true p175
             replace q175 := eq_true q175
             have p176 : 0 ≤ ((ji11) : Int) := of_decide_eq_true as_
             have q176 : (ji11) < (t172.length : Int) := of_decide_eq_true as_
             obtain ⟨ad176, e176, hx176_0⟩ := Kd.at_int (Kd.R_reads' HO_4.out).2.2 (ji11) p176 q176
             obtain rfl : ad175 = ad176 := (by injection e176)
             replace p176 := eq_true p176
             replace q176 := eq_true q176
             refine start_ (n := 12) (S := fun w' => w'.cell? (ad175.add (x6_1).toNat) = some (.int .i64 (rd t172 x6_1)) ∧ w'.cell? (ad175.add ((ji11)).toNat) = some (.int .i64 (rd t172 (ji11)))) (ds := []) #[false, false, false, false, false, false, false, false, false, false, false, false] (by kernel_rfl) rfl rfl ⟨hx175_0, hx176_0⟩ (fun hHeld => ?_); refine with_tabW calamusref13_Parse.tab7 calamusref13_Parse.bits7 (fun HT_ HW_ => ?_)
             generalize wr.drew = w18 at HO_4 HB hx175_0 hx176_0 hHeld ⊢
             refine pp_ (i := 0) (N := some 22) #[true, false, false, false, false, false, false, false, false, false, false, false] rfl rfl (any_of HT_.out (by kernel_rfl)) (h := ?_)
             refine pp_ (i := 1) (N := some 23) #[true, true, false, false, false, false, false, false, false, false, false, false] rfl rfl (any_of HT_.out (by kernel_rfl)) (h := ?_)
             refine pp_ (i := 2) (N := some 24) #[true, true, true, false, false, false, false, false, false, false, false, false] rfl rfl (any_of HT_.out (by kernel_rfl)) (h := ?_)
             refine pp_ (i := 3) (N := some 25) #[true, true, true, true, false, false, false, false, false, false, false, false] rfl rfl (any_of HT_.out (by kernel_rfl)) (h := ?_)
             refine pp_ (i := 5) (N := some 27) #[true, true, true, true, false, true, false, false, false, false, false, false] rfl rfl (any_of HT_.out (by kernel_rfl)) (h := ?_)
             refine pp_ (i := 6) (N := some 28) #[true, true, true, true, false, true, true, false, false, false, false, false] rfl rfl (any_of HT_.out (by kernel_rfl)) (h := ?_)
             refine pp_ (i := 7) (N := some 29) #[true, true, true, true, false, true, true, true, false, false, false, false] rfl rfl (any_of HT_.out (by kernel_rfl)) (h := ?_)
             refine pp_ (i := 8) (N := some 30) #[true, true, true, true, false, true, true, true, true, false, false, false] rfl rfl (any_of HT_.out (by kernel_rfl)) (h := ?_)
             refine take_ (i := 4) (N := some 26) (v := ?_) (a' := ?_) #[true, true, true, true, true, true, true, true, true, false, false, false] rfl rfl (take_ofW HT_.out HW_.out (by kernel_rfl)) (fun _ _ _ h => h) (Or.inl ⟨by rfl, ?_⟩) hHeld ?_ ?_
             rotate_left
             ·rintro w' ⟨s0, s1⟩
              go_simp
              with_reducible rfl
             rotate_left
             ·simp only [Act.put, List.setIfInBounds_toArray, List.set_cons_zero, List.set_cons_succ, i64_w, i32_w]
              rfl
             refine take_ (i := 9) (N := some 31) (v := ?_) (a' := ?_) #[true, true, true, true, true, true, true, true, true, true, false, false] rfl rfl (take_ofW HT_.out HW_.out (by kernel_rfl)) (fun _ _ _ h => h) (Or.inl ⟨by rfl, ?_⟩) hHeld ?_ ?_
             rotate_left
             ·rintro w' ⟨s0, s1⟩
              go_simp
              with_reducible rfl
             rotate_left
             ·simp only [Act.put, List.setIfInBounds_toArray, List.set_cons_zero, List.set_cons_succ, i64_w, i32_w]
              rfl
             refine pp_ (i := 10) (N := some 32) #[true, true, true, true, true, true, true, true, true, true, true, false] rfl rfl (any_of HT_.out (by kernel_rfl)) (h := ?_)
             refine pp_ (i := 11) (N := some 7) #[true, true, true, true, true, true, true, true, true, true, true, true] rfl rfl (any_of HT_.out (by kernel_rfl)) (h := ?_)
             refine done_ (done_of HT_.out (by kernel_rfl)) ?_
             try go_wp2_with (first | ((with_reducible refine gate_dst (N := 35) rfl ?_); refine Kd.R_lit Kd.string _ 9 ?hg (N := 35) ?hd (xs := ([(⟨#[8]⟩ : ByteArray), (⟨#[9]⟩ : ByteArray), (⟨#[13]⟩ : ByteArray), (⟨#[18]⟩ : ByteArray), (⟨#[21]⟩ : ByteArray), (⟨#[23]⟩ : ByteArray), (⟨#[27]⟩ : ByteArray), (⟨#[60]⟩ : ByteArray)] : List ByteArray)) (inner := [.string (⟨#[8]⟩ : ByteArray), .string (⟨#[9]⟩ : ByteArray), .string (⟨#[13]⟩ : ByteArray), .string (⟨#[18]⟩ : ByteArray), .string (⟨#[21]⟩ : ByteArray), .string (⟨#[23]⟩ : ByteArray), .string (⟨#[27]⟩ : ByteArray), .string (⟨#[60]⟩ : ByteArray)]) (ok := fun _ => True) (okp := fun _ => True) ?hr ?hp (fun _ hk => hk) trivial (Below.refl _ _) (Nat.le_refl _) (by simp) ?_; (case hd => rfl); (case hg => rfl); (case hr => first | (go_simp; done) | (go_simp; rfl)); (case hp => exact (Reps.one (show Kd.M Kd.string _ _ _ (⟨#[8]⟩ : ByteArray) [.string (⟨#[8]⟩ : ByteArray)] from rfl) (Reps.one (show Kd.M Kd.string _ _ _ (⟨#[9]⟩ : ByteArray) [.string (⟨#[9]⟩ : ByteArray)] from rfl) (Reps.one (show Kd.M Kd.string _ _ _ (⟨#[13]⟩ : ByteArray) [.string (⟨#[13]⟩ : ByteArray)] from rfl) (Reps.one (show Kd.M Kd.string _ _ _ (⟨#[18]⟩ : ByteArray) [.string (⟨#[18]⟩ : ByteArray)] from rfl) (Reps.one (show Kd.M Kd.string _ _ _ (⟨#[21]⟩ : ByteArray) [.string (⟨#[21]⟩ : ByteArray)] from rfl) (Reps.one (show Kd.M Kd.string _ _ _ (⟨#[23]⟩ : ByteArray) [.string (⟨#[23]⟩ : ByteArray)] from rfl) (Reps.one (show Kd.M Kd.string _ _ _ (⟨#[27]⟩ : ByteArray) [.string (⟨#[27]⟩ : ByteArray)] from rfl) (Reps.one (show Kd.M Kd.string _ _ _ (⟨#[60]⟩ : ByteArray) [.string (⟨#[60]⟩ : ByteArray)] from rfl) (Reps.none _ _)))))))))); intro v178 w19 ho20 hb hg_ hnew_; clear hg_ hnew_; (first | rw [← Ny177.out] at ho20 | (simp only [Int.reduceToNat] at ho20; rw [← Ny177.out] at ho20)); have HO179 := Aside0.mk (Kd.R_lower ho20 (below_size (hb_ HB))); replace HO_4 := Aside0.mk (Kd.R_below (rw_ HO_4.out) hb); replace HB := bs_ HB hb; clear hb ho20; obtain ⟨Ao21, co21, eo21⟩ := Kd.R_slice HO179.out; subst eo21))
             go_loopg [7, 8, 37] k1 (fun kq v7 v8 v37 w' => ∃ (x7_2 : ByteArray) (x8_2 : Int) (x37_2 : Int), v7 = .string x7_2 ∧ v8 = .int .i64 x8_2 ∧ v37 = .int .i64 x37_2 ∧ Aside0 (calamusref13_Parse.l1 kq a0 t172 x5_1 x6_1 x7_2 x8_2 y177 (y177.length : Int) x37_2 = some (r1, r2)) ∧ Aside0 (kq ≤ k1) ∧ Aside0 (Kd.R (Kd.int .i64) 3 w' w.heap.size (fun _ => True) (.slice (some ad175) t172.length co7) t172) ∧ Aside0 (Kd.R Kd.string 9 w' w.heap.size (fun _ => True) (.slice Ao21 y177.length co21) y177) ∧ Aside0 (Below w.heap.size w w'))
             case atStart => exact ⟨((⟨#[]⟩ : ByteArray)), (1), (0), es_, es_, es_, H', ⟨Nat.le_refl _⟩, ⟨rw_ HO_4.out⟩, ⟨rw_ HO179.out⟩, ⟨hb_ HB⟩⟩
             case round =>
              clear H'
              try clear c3
              try clear c3b0
              try clear c3b1
              try clear c3b2
              try clear c8
              try clear c8b0
              try clear c9
              try clear c9b0
              try clear c10
              try clear c10b0
              try clear c12
              try clear c12b0
              try clear c13
              try clear c13b0
              try clear c14
              try clear c14b0
              try clear c14b1
              try clear c15
              try clear c15b0
              try clear c15b1
              try clear c16
              try clear c16b0
              try clear c16b1
              try clear c17
              try clear c17b0
              try clear c17b1
              try clear hx175_0
              try clear hx176_0
              try clear p175
              try clear p176
              try clear q175
              try clear q176
              obtain ⟨x7_2, x8_2, x37_2, rfl, rfl, rfl, HA, HK2, HO_4, HO_35, HB⟩ := hrel
              cases gk with
              | zero => exact absurd HA.out (by simp [calamusref13_Parse.l1])
              | succ k2 =>
               have H := HA.out
               clear HA
               simp only [calamusref13_Parse.l1] at H
               by_cases c22 : x37_2 < (y177.length : Int)
               ·rw [if_pos c22] at H
                have c22b0 : decide (x37_2 < (y177.length : Int)) = true := decide_eq_true c22
                clear c22
                by_cases c23 : 0 ≤ x37_2
                ·rw [if_pos c23] at H
                 have c23b0 : decide (0 ≤ x37_2) = true := decide_eq_true c23
                 clear c23
                 by_cases c24 : x37_2 < (y177.length : Int)
                 ·rw [if_pos c24] at H
                  have c24b0 : decide (x37_2 < (y177.length : Int)) = true := decide_eq_true c24
                  clear c24
                  replace H := Option.bind_eq_some_iff.mp H
                  obtain ⟨t181, A250, H⟩ := H
                  replace H : (if 0 ≤ x6_1 then (if x6_1 < (t172.length : Int) then (if (wrap64 ((rd t172 x6_1) + (t181.size : Int))) ≤ (a0.size : Int) then (if 0 ≤ (rd t172 x6_1) then (if (rd t172 x6_1) ≤ (wrap64 ((rd t172 x6_1) + (t181.size : Int))) then ((calamusref13_Name.f k2 (rdOf ByteArray.empty y177 x37_2)).bind fun t185 => (if (a0.extract ((rd t172 x6_1) : Int).toNat ((wrap64 ((rd t172 x6_1) + (t181.size : Int))) : Int).toNat).toList = t185.toList then (calamusref13_Parse.l1 k2 a0 t172 x5_1 x6_1 (rdOf ByteArray.empty y177 x37_2) (t181.size : Int) y177 (y177.length : Int) (wrap64 (x37_2 + 1))) else (calamusref13_Parse.l1 k2 a0 t172 x5_1 x6_1 x7_2 x8_2 y177 (y177.length : Int) (wrap64 (x37_2 + 1))))) else (none)) else (none)) else (calamusref13_Parse.l1 k2 a0 t172 x5_1 x6_1 x7_2 x8_2 y177 (y177.length : Int) (wrap64 (x37_2 + 1)))) else (none)) else (none)) = some (r1, r2) := H
                  have A25 := Aside0.mk A250
                  clear A250
                  by_cases c26 : 0 ≤ x6_1
                  ·rw [if_pos c26] at H
                   have c26b0 : decide (0 ≤ x6_1) = true := decide_eq_true c26
                   clear c26
                   by_cases c27 : x6_1 < (t172.length : Int)
                   ·rw [if_pos c27] at H
                    have c27b0 : decide (x6_1 < (t172.length : Int)) = true := decide_eq_true c27
                    clear c27
                    by_cases c28 : (wrap64 ((rd t172 x6_1) + (t181.size : Int))) ≤ (a0.size : Int)
                    ·rw [if_pos c28] at H
                     have c28b0 : decide ((wrap64 ((rd t172 x6_1) + (t181.size : Int))) ≤ (a0.size : Int)) = true := decide_eq_true c28
                     clear c28
                     by_cases c29 : 0 ≤ (rd t172 x6_1)
                     ·rw [if_pos c29] at H
                      have c29b0 := eq_true c29
                      try (have c29b0x := c29b0; simp only [ByteArray.size_extract, Nat.min_self] at c29b0x)
                      have c29b1 : decide (0 ≤ (rd t172 x6_1)) = true := decide_eq_true c29
                      clear c29
                      by_cases c30 : (rd t172 x6_1) ≤ (wrap64 ((rd t172 x6_1) + (t181.size : Int)))
                      ·rw [if_pos c30] at H
                       have c30b0 := eq_true c30
                       try (have c30b0x := c30b0; simp only [ByteArray.size_extract, Nat.min_self] at c30b0x)
                       have c30b1 : decide ((rd t172 x6_1) ≤ (wrap64 ((rd t172 x6_1) + (t181.size : Int)))) = true := decide_eq_true c30
                       have c31b0 := eq_true (of_decide_eq_true as_ : (wrap64 ((rd t172 x6_1) + (t181.size : Int))) ≤ (a0.size : Int))
                       replace H := Option.bind_eq_some_iff.mp H
                       obtain ⟨t185, A320, H⟩ := H
                       replace H : (if (a0.extract ((rd t172 x6_1) : Int).toNat ((wrap64 ((rd t172 x6_1) + (t181.size : Int))) : Int).toNat).toList = t185.toList then (calamusref13_Parse.l1 k2 a0 t172 x5_1 x6_1 (rdOf ByteArray.empty y177 x37_2) (t181.size : Int) y177 (y177.length : Int) (wrap64 (x37_2 + 1))) else (calamusref13_Parse.l1 k2 a0 t172 x5_1 x6_1 x7_2 x8_2 y177 (y177.length : Int) (wrap64 (x37_2 + 1)))) = some (r1, r2) := H
                       have A32 := Aside0.mk A320
                       clear A320
                       by_cases c33 : (a0.extract ((rd t172 x6_1) : Int).toNat ((wrap64 ((rd t172 x6_1) + (t181.size : Int))) : Int).toNat).toList = t185.toList
                       ·rw [if_pos c33] at H
                        have c33b0 : ((a0.extract ((rd t172 x6_1) : Int).toNat ((wrap64 ((rd t172 x6_1) + (t181.size : Int))) : Int).toNat).toList == t185.toList) = true := beq_iff_eq.mpr c33
                        have c33b1 : ((a0.extract ((rd t172 x6_1) : Int).toNat ((wrap64 ((rd t172 x6_1) + (t181.size : Int))) : Int).toNat).toList != t185.toList) = false := bne_eq_false_iff_eq.mpr c33
                        clear c33
                        have H' := Aside0.mk H
                        clear H
                        have p180 : 0 ≤ (x37_2 : Int) := of_decide_eq_true as_
                        have q180 : x37_2 < (y177.length : Int) := of_decide_eq_true as_
                        obtain ⟨ad180, e180, hx180_0⟩ := Kd.at_string (Kd.R_reads' HO_35.out).2.2 x37_2 p180 q180
                        cases e180
                        replace p180 := eq_true p180
                        replace q180 := eq_true q180
                        try go_wp2_with (first | ((with_reducible refine gate_callee (f := 42) rfl ?_); refine ge_ (some 42) rfl rfl Try.func42 (by kernel_rfl) rfl #[.string (rdOf ByteArray.empty y177 x37_2)] rfl (h := ?_); (with_reducible refine (calamusref13_Name.calls k2 (rdOf ByteArray.empty y177 x37_2) t181 _ A25.out).mono ?_); rintro e w34 ⟨rfl, hb⟩; refine ⟨_, rfl, ?_⟩; replace HO_4 := Aside0.mk (Kd.R_below (rw_ HO_4.out) hb); replace HO_35 := Aside0.mk (Kd.R_below (rw_ HO_35.out) hb); replace HB := bs_ HB hb; (try clear hb); (try clear hb2); (try clear hk); (try clear hi)))
                        have n0_ := Aside0.mk (Kd.R_drew HO_4.out)
                        have n1_ := Aside0.mk (Kd.R_drew HO_35.out)
                        have n2_ := Aside0.mk (below_drew1 HB.out)
                        clear HO_4
                        clear HO_35
                        clear HB
                        have HO_4 := n0_
                        have HO_35 := n1_
                        have HB := n2_
                        clear n0_ n1_ n2_
                        have p182 : 0 ≤ (x6_1 : Int) := of_decide_eq_true as_
                        have q182 : x6_1 < (t172.length : Int) := of_decide_eq_true as_
                        obtain ⟨ad182, e182, hx182_0⟩ := Kd.at_int (Kd.R_reads' HO_4.out).2.2 x6_1 p182 q182
                        obtain rfl : ad175 = ad182 := (by injection e182)
                        replace p182 := eq_true p182
                        replace q182 := eq_true q182
                        have p183 : 0 ≤ (x6_1 : Int) := of_decide_eq_true as_
                        have q183 : x6_1 < (t172.length : Int) := of_decide_eq_true as_
                        obtain ⟨ad183, e183, hx183_0⟩ := Kd.at_int (Kd.R_reads' HO_4.out).2.2 x6_1 p183 q183
                        obtain rfl : ad175 = ad183 := (by injection e183)
                        replace p183 := eq_true p183
                        replace q183 := eq_true q183
                        have p184 : 0 ≤ (x6_1 : Int) := of_decide_eq_true as_
                        have q184 : x6_1 < (t172.length : Int) := of_decide_eq_true as_
                        obtain ⟨ad184, e184, hx184_0⟩ := Kd.at_int (Kd.R_reads' HO_4.out).2.2 x6_1 p184 q184
                        obtain rfl : ad175 = ad184 := (by injection e184)
                        replace p184 := eq_true p184
                        replace q184 := eq_true q184
                        refine start_ (n := 26) (S := fun w' => w'.cell? (ad175.add (x6_1).toNat) = some (.int .i64 (rd t172 x6_1)) ∧ w'.cell? (ad175.add (x6_1).toNat) = some (.int .i64 (rd t172 x6_1)) ∧ w'.cell? (ad175.add (x6_1).toNat) = some (.int .i64 (rd t172 x6_1))) (ds := []) #[false, false, false, false, false, false, false, false, false, false, false, false, false, false, false, false, false, false, false, false, false, false, false, false, false, false] (by kernel_rfl) rfl rfl ⟨hx182_0, hx183_0, hx184_0⟩ (fun hHeld => ?_); refine with_tabW calamusref13_Parse.tab15 calamusref13_Parse.bits15 (fun HT_ HW_ => ?_)
                        generalize w34.drew = w35 at HO_4 HO_35 HB hx182_0 hx183_0 hx184_0 hHeld ⊢
                        refine pp_ (i := 0) (N := some 44) #[true, false, false, false, false, false, false, false, false, false, false, false, false, false, false, false, false, false, false, false, false, false, false, false, false, false] rfl rfl (any_of HT_.out (by kernel_rfl)) (h := ?_)
                        refine pp_ (i := 1) (N := some 45) #[true, true, false, false, false, false, false, false, false, false, false, false, false, false, false, false, false, false, false, false, false, false, false, false, false, false] rfl rfl (any_of HT_.out (by kernel_rfl)) (h := ?_)
                        refine pp_ (i := 2) (N := some 46) #[true, true, true, false, false, false, false, false, false, false, false, false, false, false, false, false, false, false, false, false, false, false, false, false, false, false] rfl rfl (any_of HT_.out (by kernel_rfl)) (h := ?_)
                        refine pp_ (i := 4) (N := some 48) #[true, true, true, false, true, false, false, false, false, false, false, false, false, false, false, false, false, false, false, false, false, false, false, false, false, false] rfl rfl (any_of HT_.out (by kernel_rfl)) (h := ?_)
                        refine pp_ (i := 6) (N := some 50) #[true, true, true, false, true, false, true, false, false, false, false, false, false, false, false, false, false, false, false, false, false, false, false, false, false, false] rfl rfl (any_of HT_.out (by kernel_rfl)) (h := ?_)
                        refine pp_ (i := 7) (N := some 51) #[true, true, true, false, true, false, true, true, false, false, false, false, false, false, false, false, false, false, false, false, false, false, false, false, false, false] rfl rfl (any_of HT_.out (by kernel_rfl)) (h := ?_)
                        refine take_ (i := 3) (N := some 47) (v := ?_) (a' := ?_) #[true, true, true, true, true, false, true, true, false, false, false, false, false, false, false, false, false, false, false, false, false, false, false, false, false, false] rfl rfl (take_ofW HT_.out HW_.out (by kernel_rfl)) (fun _ _ _ h => h) (Or.inl ⟨by rfl, ?_⟩) hHeld ?_ ?_
                        rotate_left
                        ·rintro w' ⟨s0, s1, s2⟩
                         go_simp
                         with_reducible rfl
                        rotate_left
                        ·simp only [Act.put, List.setIfInBounds_toArray, List.set_cons_zero, List.set_cons_succ, i64_w, i32_w]
                         rfl
                        refine pp_ (i := 5) (N := some 49) #[true, true, true, true, true, true, true, true, false, false, false, false, false, false, false, false, false, false, false, false, false, false, false, false, false, false] rfl rfl (any_of HT_.out (by kernel_rfl)) (h := ?_)
                        refine pp_ (i := 8) (N := some 52) #[true, true, true, true, true, true, true, true, true, false, false, false, false, false, false, false, false, false, false, false, false, false, false, false, false, false] rfl rfl (any_of HT_.out (by kernel_rfl)) (h := ?_)
                        refine pp_ (i := 9) (N := some 53) #[true, true, true, true, true, true, true, true, true, true, false, false, false, false, false, false, false, false, false, false, false, false, false, false, false, false] rfl rfl (any_of HT_.out (by kernel_rfl)) (h := ?_)
                        refine pp_ (i := 10) (N := some 54) #[true, true, true, true, true, true, true, true, true, true, true, false, false, false, false, false, false, false, false, false, false, false, false, false, false, false] rfl rfl (any_of HT_.out (by kernel_rfl)) (h := ?_)
                        refine pp_ (i := 11) (N := some 55) #[true, true, true, true, true, true, true, true, true, true, true, true, false, false, false, false, false, false, false, false, false, false, false, false, false, false] rfl rfl (any_of HT_.out (by kernel_rfl)) (h := ?_)
                        refine pp_ (i := 12) (N := some 56) #[true, true, true, true, true, true, true, true, true, true, true, true, true, false, false, false, false, false, false, false, false, false, false, false, false, false] rfl rfl (any_of HT_.out (by kernel_rfl)) (h := ?_)
                        refine pp_ (i := 13) (N := some 57) #[true, true, true, true, true, true, true, true, true, true, true, true, true, true, false, false, false, false, false, false, false, false, false, false, false, false] rfl rfl (any_of HT_.out (by kernel_rfl)) (h := ?_)
                        refine pp_ (i := 15) (N := some 59) #[true, true, true, true, true, true, true, true, true, true, true, true, true, true, false, true, false, false, false, false, false, false, false, false, false, false] rfl rfl (any_of HT_.out (by kernel_rfl)) (h := ?_)
                        refine pp_ (i := 16) (N := some 60) #[true, true, true, true, true, true, true, true, true, true, true, true, true, true, false, true, true, false, false, false, false, false, false, false, false, false] rfl rfl (any_of HT_.out (by kernel_rfl)) (h := ?_)
                        refine pp_ (i := 17) (N := some 61) #[true, true, true, true, true, true, true, true, true, true, true, true, true, true, false, true, true, true, false, false, false, false, false, false, false, false] rfl rfl (any_of HT_.out (by kernel_rfl)) (h := ?_)
                        refine pp_ (i := 19) (N := some 63) #[true, true, true, true, true, true, true, true, true, true, true, true, true, true, false, true, true, true, false, true, false, false, false, false, false, false] rfl rfl (any_of HT_.out (by kernel_rfl)) (h := ?_)
                        refine pp_ (i := 22) (N := some 66) #[true, true, true, true, true, true, true, true, true, true, true, true, true, true, false, true, true, true, false, true, false, false, true, false, false, false] rfl rfl (any_of HT_.out (by kernel_rfl)) (h := ?_)
                        refine take_ (i := 14) (N := some 58) (v := ?_) (a' := ?_) #[true, true, true, true, true, true, true, true, true, true, true, true, true, true, true, true, true, true, false, true, false, false, true, false, false, false] rfl rfl (take_ofW HT_.out HW_.out (by kernel_rfl)) (fun _ _ _ h => h) (Or.inl ⟨by rfl, ?_⟩) hHeld ?_ ?_
                        rotate_left
                        ·rintro w' ⟨s0, s1, s2⟩
                         go_simp
                         with_reducible rfl
                        rotate_left
                        ·simp only [Act.put, List.setIfInBounds_toArray, List.set_cons_zero, List.set_cons_succ, i64_w, i32_w]
                         rfl
                        refine take_ (i := 18) (N := some 62) (v := ?_) (a' := ?_) #[true, true, true, true, true, true, true, true, true, true, true, true, true, true, true, true, true, true, true, true, false, false, true, false, false, false] rfl rfl (take_ofW HT_.out HW_.out (by kernel_rfl)) (fun _ _ _ h => h) (Or.inl ⟨by rfl, ?_⟩) hHeld ?_ ?_
                        rotate_left
                        ·rintro w' ⟨s0, s1, s2⟩
                         go_simp
                         with_reducible rfl
                        rotate_left
                        ·simp only [Act.put, List.setIfInBounds_toArray, List.set_cons_zero, List.set_cons_succ, i64_w, i32_w]
                         rfl
                        refine pp_ (i := 20) (N := some 64) #[true, true, true, true, true, true, true, true, true, true, true, true, true, true, true, true, true, true, true, true, true, false, true, false, false, false] rfl rfl (any_of HT_.out (by kernel_rfl)) (h := ?_)
                        refine pp_ (i := 21) (N := some 65) #[true, true, true, true, true, true, true, true, true, true, true, true, true, true, true, true, true, true, true, true, true, true, true, false, false, false] rfl rfl (any_of HT_.out (by kernel_rfl)) (h := ?_)
                        refine one_ (i := 23) (N := some 67) #[true, true, true, true, true, true, true, true, true, true, true, true, true, true, true, true, true, true, true, true, true, true, true, true, false, false] rfl rfl (one_of HT_.out (by kernel_rfl)) (by decide) (fun K hK => ?_)
                        refine goes_ Try.func42 (by kernel_rfl) rfl #[.string (rdOf ByteArray.empty y177 x37_2)] (by rfl) rfl rfl (by (try simp only [List.map_toArray, List.map_cons, List.map_nil]); first | done | rfl | (simp only [List.length_drop, List.length_take]; rfl)) ?_
                        with_reducible refine (calamusref13_Name.calls k2 (rdOf ByteArray.empty y177 x37_2) t185 _ A32.out).mono ?_
                        rintro e w36 ⟨rfl, hb⟩
                        have HS0_ := (hb.cell (World.block_lt_of_cell? _ _ (hHeld.1))).trans (hHeld.1)
                        have HS1_ := (hb.cell (World.block_lt_of_cell? _ _ (hHeld.2.1))).trans (hHeld.2.1)
                        have HS2_ := (hb.cell (World.block_lt_of_cell? _ _ (hHeld.2.2))).trans (hHeld.2.2)
                        refine ⟨_, rfl, ?_⟩
                        have n0_ := Aside0.mk (Kd.R_below (rw_ HO_4.out) hb)
                        have n1_ := Aside0.mk (Kd.R_below (rw_ HO_35.out) hb)
                        have n2_ := bs_ HB hb
                        clear HO_4
                        clear HO_35
                        clear HB
                        have HO_4 := n0_
                        have HO_35 := n1_
                        have HB := n2_
                        clear n0_ n1_ n2_
                        (try clear hb)
                        (try clear hb2)
                        (try clear hk)
                        (try clear hi)
                        refine hK.out _ _ ⟨HS0_, HS1_, HS2_⟩ (fun hHeld => ?_)
                        clear hK K
                        refine norm_ (a' := ?_) ?_ ?_
                        rotate_left
                        ·show Act.put _ (some 67) _ = _
                         simp only [Act.put, List.setIfInBounds_toArray, List.set_cons_zero, List.set_cons_succ, i64_w, i32_w]
                         rfl
                        refine pp_ (i := 24) (N := some 68) #[true, true, true, true, true, true, true, true, true, true, true, true, true, true, true, true, true, true, true, true, true, true, true, true, true, false] rfl rfl (any_of HT_.out (by kernel_rfl)) (h := ?_)
                        refine pp_ (i := 25) (N := some 69) #[true, true, true, true, true, true, true, true, true, true, true, true, true, true, true, true, true, true, true, true, true, true, true, true, true, true] rfl rfl (any_of HT_.out (by kernel_rfl)) (h := ?_)
                        refine done_ (done_of HT_.out (by kernel_rfl)) ?_
                        try go_wp2
                        go_roundg k2
                        case measure => have := HK1.out; have := HK2.out; omega
                        case rel => exact ⟨(rdOf ByteArray.empty y177 x37_2), ((t181.size : Int)), (wrap64 (x37_2 + 1)), es_, es_, es_, H', ⟨by have := HK1.out; have := HK2.out; omega⟩, ⟨rw_ HO_4.out⟩, ⟨rw_ HO_35.out⟩, ⟨hb_ HB⟩⟩
                       ·rw [if_neg c33] at H
                        have c33b0 : ((a0.extract ((rd t172 x6_1) : Int).toNat ((wrap64 ((rd t172 x6_1) + (t181.size : Int))) : Int).toNat).toList == t185.toList) = false := beq_eq_false_iff_ne.mpr c33
                        have c33b1 : ((a0.extract ((rd t172 x6_1) : Int).toNat ((wrap64 ((rd t172 x6_1) + (t181.size : Int))) : Int).toNat).toList != t185.toList) = true := bne_iff_ne.mpr c33
                        have H' := Aside0.mk H
                        clear H
                        have p180 : 0 ≤ (x37_2 : Int) := of_decide_eq_true as_
                        have q180 : x37_2 < (y177.length : Int) := of_decide_eq_true as_
                        obtain ⟨ad180, e180, hx180_0⟩ := Kd.at_string (Kd.R_reads' HO_35.out).2.2 x37_2 p180 q180
                        cases e180
                        replace p180 := eq_true p180
                        replace q180 := eq_true q180
                        try go_wp2_with (first | ((with_reducible refine gate_callee (f := 42) rfl ?_); refine ge_ (some 42) rfl rfl Try.func42 (by kernel_rfl) rfl #[.string (rdOf ByteArray.empty y177 x37_2)] rfl (h := ?_); (with_reducible refine (calamusref13_Name.calls k2 (rdOf ByteArray.empty y177 x37_2) t181 _ A25.out).mono ?_); rintro e w37 ⟨rfl, hb⟩; refine ⟨_, rfl, ?_⟩; replace HO_4 := Aside0.mk (Kd.R_below (rw_ HO_4.out) hb); replace HO_35 := Aside0.mk (Kd.R_below (rw_ HO_35.out) hb); replace HB := bs_ HB hb; (try clear hb); (try clear hb2); (try clear hk); (try clear hi)))
                        have n0_ := Aside0.mk (Kd.R_drew HO_4.out)
                        have n1_ := Aside0.mk (Kd.R_drew HO_35.out)
                        have n2_ := Aside0.mk (below_drew1 HB.out)
                        clear HO_4
                        clear HO_35
                        clear HB
                        have HO_4 := n0_
                        have HO_35 := n1_
                        have HB := n2_
                        clear n0_ n1_ n2_
                        have p182 : 0 ≤ (x6_1 : Int) := of_decide_eq_true as_
                        have q182 : x6_1 < (t172.length : Int) := of_decide_eq_true as_
                        obtain ⟨ad182, e182, hx182_0⟩ := Kd.at_int (Kd.R_reads' HO_4.out).2.2 x6_1 p182 q182
                        obtain rfl : ad175 = ad182 := (by injection e182)
                        replace p182 := eq_true p182
                        replace q182 := eq_true q182
                        have p183 : 0 ≤ (x6_1 : Int) := of_decide_eq_true as_
                        have q183 : x6_1 < (t172.length : Int) := of_decide_eq_true as_
                        obtain ⟨ad183, e183, hx183_0⟩ := Kd.at_int (Kd.R_reads' HO_4.out).2.2 x6_1 p183 q183
                        obtain rfl : ad175 = ad183 := (by injection e183)
                        replace p183 := eq_true p183
                        replace q183 := eq_true q183
                        have p184 : 0 ≤ (x6_1 : Int) := of_decide_eq_true as_
                        have q184 : x6_1 < (t172.length : Int) := of_decide_eq_true as_
                        obtain ⟨ad184, e184, hx184_0⟩ := Kd.at_int (Kd.R_reads' HO_4.out).2.2 x6_1 p184 q184
                        obtain rfl : ad175 = ad184 := (by injection e184)
                        replace p184 := eq_true p184
                        replace q184 := eq_true q184
                        refine start_ (n := 26) (S := fun w' => w'.cell? (ad175.add (x6_1).toNat) = some (.int .i64 (rd t172 x6_1)) ∧ w'.cell? (ad175.add (x6_1).toNat) = some (.int .i64 (rd t172 x6_1)) ∧ w'.cell? (ad175.add (x6_1).toNat) = some (.int .i64 (rd t172 x6_1))) (ds := []) #[false, false, false, false, false, false, false, false, false, false, false, false, false, false, false, false, false, false, false, false, false, false, false, false, false, false] (by kernel_rfl) rfl rfl ⟨hx182_0, hx183_0, hx184_0⟩ (fun hHeld => ?_); refine with_tabW calamusref13_Parse.tab15 calamusref13_Parse.bits15 (fun HT_ HW_ => ?_)
                        generalize w37.drew = w38 at HO_4 HO_35 HB hx182_0 hx183_0 hx184_0 hHeld ⊢
                        refine pp_ (i := 0) (N := some 44) #[true, false, false, false, false, false, false, false, false, false, false, false, false, false, false, false, false, false, false, false, false, false, false, false, false, false] rfl rfl (any_of HT_.out (by kernel_rfl)) (h := ?_)
                        refine pp_ (i := 1) (N := some 45) #[true, true, false, false, false, false, false, false, false, false, false, false, false, false, false, false, false, false, false, false, false, false, false, false, false, false] rfl rfl (any_of HT_.out (by kernel_rfl)) (h := ?_)
                        refine pp_ (i := 2) (N := some 46) #[true, true, true, false, false, false, false, false, false, false, false, false, false, false, false, false, false, false, false, false, false, false, false, false, false, false] rfl rfl (any_of HT_.out (by kernel_rfl)) (h := ?_)
                        refine pp_ (i := 4) (N := some 48) #[true, true, true, false, true, false, false, false, false, false, false, false, false, false, false, false, false, false, false, false, false, false, false, false, false, false] rfl rfl (any_of HT_.out (by kernel_rfl)) (h := ?_)
                        refine pp_ (i := 6) (N := some 50) #[true, true, true, false, true, false, true, false, false, false, false, false, false, false, false, false, false, false, false, false, false, false, false, false, false, false] rfl rfl (any_of HT_.out (by kernel_rfl)) (h := ?_)
                        refine pp_ (i := 7) (N := some 51) #[true, true, true, false, true, false, true, true, false, false, false, false, false, false, false, false, false, false, false, false, false, false, false, false, false, false] rfl rfl (any_of HT_.out (by kernel_rfl)) (h := ?_)
                        refine take_ (i := 3) (N := some 47) (v := ?_) (a' := ?_) #[true, true, true, true, true, false, true, true, false, false, false, false, false, false, false, false, false, false, false, false, false, false, false, false, false, false] rfl rfl (take_ofW HT_.out HW_.out (by kernel_rfl)) (fun _ _ _ h => h) (Or.inl ⟨by rfl, ?_⟩) hHeld ?_ ?_
                        rotate_left
                        ·rintro w' ⟨s0, s1, s2⟩
                         go_simp
                         with_reducible rfl
                        rotate_left
                        ·simp only [Act.put, List.setIfInBounds_toArray, List.set_cons_zero, List.set_cons_succ, i64_w, i32_w]
                         rfl
                        refine pp_ (i := 5) (N := some 49) #[true, true, true, true, true, true, true, true, false, false, false, false, false, false, false, false, false, false, false, false, false, false, false, false, false, false] rfl rfl (any_of HT_.out (by kernel_rfl)) (h := ?_)
                        refine pp_ (i := 8) (N := some 52) #[true, true, true, true, true, true, true, true, true, false, false, false, false, false, false, false, false, false, false, false, false, false, false, false, false, false] rfl rfl (any_of HT_.out (by kernel_rfl)) (h := ?_)
                        refine pp_ (i := 9) (N := some 53) #[true, true, true, true, true, true, true, true, true, true, false, false, false, false, false, false, false, false, false, false, false, false, false, false, false, false] rfl rfl (any_of HT_.out (by kernel_rfl)) (h := ?_)
                        refine pp_ (i := 10) (N := some 54) #[true, true, true, true, true, true, true, true, true, true, true, false, false, false, false, false, false, false, false, false, false, false, false, false, false, false] rfl rfl (any_of HT_.out (by kernel_rfl)) (h := ?_)
                        refine pp_ (i := 11) (N := some 55) #[true, true, true, true, true, true, true, true, true, true, true, true, false, false, false, false, false, false, false, false, false, false, false, false, false, false] rfl rfl (any_of HT_.out (by kernel_rfl)) (h := ?_)
                        refine pp_ (i := 12) (N := some 56) #[true, true, true, true, true, true, true, true, true, true, true, true, true, false, false, false, false, false, false, false, false, false, false, false, false, false] rfl rfl (any_of HT_.out (by kernel_rfl)) (h := ?_)
                        refine pp_ (i := 13) (N := some 57) #[true, true, true, true, true, true, true, true, true, true, true, true, true, true, false, false, false, false, false, false, false, false, false, false, false, false] rfl rfl (any_of HT_.out (by kernel_rfl)) (h := ?_)
                        refine pp_ (i := 15) (N := some 59) #[true, true, true, true, true, true, true, true, true, true, true, true, true, true, false, true, false, false, false, false, false, false, false, false, false, false] rfl rfl (any_of HT_.out (by kernel_rfl)) (h := ?_)
                        refine pp_ (i := 16) (N := some 60) #[true, true, true, true, true, true, true, true, true, true, true, true, true, true, false, true, true, false, false, false, false, false, false, false, false, false] rfl rfl (any_of HT_.out (by kernel_rfl)) (h := ?_)
                        refine pp_ (i := 17) (N := some 61) #[true, true, true, true, true, true, true, true, true, true, true, true, true, true, false, true, true, true, false, false, false, false, false, false, false, false] rfl rfl (any_of HT_.out (by kernel_rfl)) (h := ?_)
                        refine pp_ (i := 19) (N := some 63) #[true, true, true, true, true, true, true, true, true, true, true, true, true, true, false, true, true, true, false, true, false, false, false, false, false, false] rfl rfl (any_of HT_.out (by kernel_rfl)) (h := ?_)
                        refine pp_ (i := 22) (N := some 66) #[true, true, true, true, true, true, true, true, true, true, true, true, true, true, false, true, true, true, false, true, false, false, true, false, false, false] rfl rfl (any_of HT_.out (by kernel_rfl)) (h := ?_)
                        refine take_ (i := 14) (N := some 58) (v := ?_) (a' := ?_) #[true, true, true, true, true, true, true, true, true, true, true, true, true, true, true, true, true, true, false, true, false, false, true, false, false, false] rfl rfl (take_ofW HT_.out HW_.out (by kernel_rfl)) (fun _ _ _ h => h) (Or.inl ⟨by rfl, ?_⟩) hHeld ?_ ?_
                        rotate_left
                        ·rintro w' ⟨s0, s1, s2⟩
                         go_simp
                         with_reducible rfl
                        rotate_left
                        ·simp only [Act.put, List.setIfInBounds_toArray, List.set_cons_zero, List.set_cons_succ, i64_w, i32_w]
                         rfl
                        refine take_ (i := 18) (N := some 62) (v := ?_) (a' := ?_) #[true, true, true, true, true, true, true, true, true, true, true, true, true, true, true, true, true, true, true, true, false, false, true, false, false, false] rfl rfl (take_ofW HT_.out HW_.out (by kernel_rfl)) (fun _ _ _ h => h) (Or.inl ⟨by rfl, ?_⟩) hHeld ?_ ?_
                        rotate_left
                        ·rintro w' ⟨s0, s1, s2⟩
                         go_simp
                         with_reducible rfl
                        rotate_left
                        ·simp only [Act.put, List.setIfInBounds_toArray, List.set_cons_zero, List.set_cons_succ, i64_w, i32_w]
                         rfl
                        refine pp_ (i := 20) (N := some 64) #[true, true, true, true, true, true, true, true, true, true, true, true, true, true, true, true, true, true, true, true, true, false, true, false, false, false] rfl rfl (any_of HT_.out (by kernel_rfl)) (h := ?_)
                        refine pp_ (i := 21) (N := some 65) #[true, true, true, true, true, true, true, true, true, true, true, true, true, true, true, true, true, true, true, true, true, true, true, false, false, false] rfl rfl (any_of HT_.out (by kernel_rfl)) (h := ?_)
                        refine one_ (i := 23) (N := some 67) #[true, true, true, true, true, true, true, true, true, true, true, true, true, true, true, true, true, true, true, true, true, true, true, true, false, false] rfl rfl (one_of HT_.out (by kernel_rfl)) (by decide) (fun K hK => ?_)
                        refine goes_ Try.func42 (by kernel_rfl) rfl #[.string (rdOf ByteArray.empty y177 x37_2)] (by rfl) rfl rfl (by (try simp only [List.map_toArray, List.map_cons, List.map_nil]); first | done | rfl | (simp only [List.length_drop, List.length_take]; rfl)) ?_
                        with_reducible refine (calamusref13_Name.calls k2 (rdOf ByteArray.empty y177 x37_2) t185 _ A32.out).mono ?_
                        rintro e w39 ⟨rfl, hb⟩
                        have HS0_ := (hb.cell (World.block_lt_of_cell? _ _ (hHeld.1))).trans (hHeld.1)
                        have HS1_ := (hb.cell (World.block_lt_of_cell? _ _ (hHeld.2.1))).trans (hHeld.2.1)
                        have HS2_ := (hb.cell (World.block_lt_of_cell? _ _ (hHeld.2.2))).trans (hHeld.2.2)
                        refine ⟨_, rfl, ?_⟩
                        have n0_ := Aside0.mk (Kd.R_below (rw_ HO_4.out) hb)
                        have n1_ := Aside0.mk (Kd.R_below (rw_ HO_35.out) hb)
                        have n2_ := bs_ HB hb
                        clear HO_4
                        clear HO_35
                        clear HB
                        have HO_4 := n0_
                        have HO_35 := n1_
                        have HB := n2_
                        clear n0_ n1_ n2_
                        (try clear hb)
                        (try clear hb2)
                        (try clear hk)
                        (try clear hi)
                        refine hK.out _ _ ⟨HS0_, HS1_, HS2_⟩ (fun hHeld => ?_)
                        clear hK K
                        refine norm_ (a' := ?_) ?_ ?_
                        rotate_left
                        ·show Act.put _ (some 67) _ = _
                         simp only [Act.put, List.setIfInBounds_toArray, List.set_cons_zero, List.set_cons_succ, i64_w, i32_w]
                         rfl
                        refine pp_ (i := 24) (N := some 68) #[true, true, true, true, true, true, true, true, true, true, true, true, true, true, true, true, true, true, true, true, true, true, true, true, true, false] rfl rfl (any_of HT_.out (by kernel_rfl)) (h := ?_)
                        refine pp_ (i := 25) (N := some 69) #[true, true, true, true, true, true, true, true, true, true, true, true, true, true, true, true, true, true, true, true, true, true, true, true, true, true] rfl rfl (any_of HT_.out (by kernel_rfl)) (h := ?_)
                        refine done_ (done_of HT_.out (by kernel_rfl)) ?_
                        try go_wp2
                        go_roundg k2
                        case measure => have := HK1.out; have := HK2.out; omega
                        case rel => exact ⟨(x7_2), (x8_2), (wrap64 (x37_2 + 1)), es_, es_, es_, H', ⟨by have := HK1.out; have := HK2.out; omega⟩, ⟨rw_ HO_4.out⟩, ⟨rw_ HO_35.out⟩, ⟨hb_ HB⟩⟩
                      ·rw [if_neg c30] at H
                       exact absurd H (by simp)
                     ·rw [if_neg c29] at H
                      exact absurd H (by simp)
                    ·rw [if_neg c28] at H
                     have c28b0 : decide ((wrap64 ((rd t172 x6_1) + (t181.size : Int))) ≤ (a0.size : Int)) = false := decide_eq_false c28
                     clear c28
                     have H' := Aside0.mk H
                     clear H
                     have p180 : 0 ≤ (x37_2 : Int) := of_decide_eq_true as_
                     have q180 : x37_2 < (y177.length : Int) := of_decide_eq_true as_
                     obtain ⟨ad180, e180, hx180_0⟩ := Kd.at_string (Kd.R_reads' HO_35.out).2.2 x37_2 p180 q180
                     cases e180
                     replace p180 := eq_true p180
                     replace q180 := eq_true q180
                     try go_wp2_with (first | ((with_reducible refine gate_callee (f := 42) rfl ?_); refine ge_ (some 42) rfl rfl Try.func42 (by kernel_rfl) rfl #[.string (rdOf ByteArray.empty y177 x37_2)] rfl (h := ?_); (with_reducible refine (calamusref13_Name.calls k2 (rdOf ByteArray.empty y177 x37_2) t181 _ A25.out).mono ?_); rintro e w40 ⟨rfl, hb⟩; refine ⟨_, rfl, ?_⟩; replace HO_4 := Aside0.mk (Kd.R_below (rw_ HO_4.out) hb); replace HO_35 := Aside0.mk (Kd.R_below (rw_ HO_35.out) hb); replace HB := bs_ HB hb; (try clear hb); (try clear hb2); (try clear hk); (try clear hi)))
                     have n0_ := Aside0.mk (Kd.R_drew HO_4.out)
                     have n1_ := Aside0.mk (Kd.R_drew HO_35.out)
                     have n2_ := Aside0.mk (below_drew1 HB.out)
                     clear HO_4
                     clear HO_35
                     clear HB
                     have HO_4 := n0_
                     have HO_35 := n1_
                     have HB := n2_
                     clear n0_ n1_ n2_
                     have p182 : 0 ≤ (x6_1 : Int) := of_decide_eq_true as_
                     have q182 : x6_1 < (t172.length : Int) := of_decide_eq_true as_
                     obtain ⟨ad182, e182, hx182_0⟩ := Kd.at_int (Kd.R_reads' HO_4.out).2.2 x6_1 p182 q182
                     obtain rfl : ad175 = ad182 := (by injection e182)
                     replace p182 := eq_true p182
                     replace q182 := eq_true q182
                     refine start_ (n := 26) (S := fun w' => w'.cell? (ad175.add (x6_1).toNat) = some (.int .i64 (rd t172 x6_1))) (ds := []) #[false, false, false, false, false, false, false, false, false, false, false, false, false, false, false, false, false, false, false, false, false, false, false, false, false, false] (by kernel_rfl) rfl rfl (hx182_0) (fun hHeld => ?_); refine with_tabW calamusref13_Parse.tab15 calamusref13_Parse.bits15 (fun HT_ HW_ => ?_)
                     generalize w40.drew = w41 at HO_4 HO_35 HB hx182_0 hHeld ⊢
                     refine pp_ (i := 0) (N := some 44) #[true, false, false, false, false, false, false, false, false, false, false, false, false, false, false, false, false, false, false, false, false, false, false, false, false, false] rfl rfl (any_of HT_.out (by kernel_rfl)) (h := ?_)
                     refine pp_ (i := 1) (N := some 45) #[true, true, false, false, false, false, false, false, false, false, false, false, false, false, false, false, false, false, false, false, false, false, false, false, false, false] rfl rfl (any_of HT_.out (by kernel_rfl)) (h := ?_)
                     refine pp_ (i := 2) (N := some 46) #[true, true, true, false, false, false, false, false, false, false, false, false, false, false, false, false, false, false, false, false, false, false, false, false, false, false] rfl rfl (any_of HT_.out (by kernel_rfl)) (h := ?_)
                     refine pp_ (i := 4) (N := some 48) #[true, true, true, false, true, false, false, false, false, false, false, false, false, false, false, false, false, false, false, false, false, false, false, false, false, false] rfl rfl (any_of HT_.out (by kernel_rfl)) (h := ?_)
                     refine pp_ (i := 6) (N := some 50) #[true, true, true, false, true, false, true, false, false, false, false, false, false, false, false, false, false, false, false, false, false, false, false, false, false, false] rfl rfl (any_of HT_.out (by kernel_rfl)) (h := ?_)
                     refine pp_ (i := 7) (N := some 51) #[true, true, true, false, true, false, true, true, false, false, false, false, false, false, false, false, false, false, false, false, false, false, false, false, false, false] rfl rfl (any_of HT_.out (by kernel_rfl)) (h := ?_)
                     refine take_ (i := 3) (N := some 47) (v := ?_) (a' := ?_) #[true, true, true, true, true, false, true, true, false, false, false, false, false, false, false, false, false, false, false, false, false, false, false, false, false, false] rfl rfl (take_ofW HT_.out HW_.out (by kernel_rfl)) (fun _ _ _ h => h) (Or.inl ⟨by rfl, ?_⟩) hHeld ?_ ?_
                     rotate_left
                     ·intro w' s0
                      go_simp
                      with_reducible rfl
                     rotate_left
                     ·simp only [Act.put, List.setIfInBounds_toArray, List.set_cons_zero, List.set_cons_succ, i64_w, i32_w]
                      rfl
                     refine pp_ (i := 5) (N := some 49) #[true, true, true, true, true, true, true, true, false, false, false, false, false, false, false, false, false, false, false, false, false, false, false, false, false, false] rfl rfl (any_of HT_.out (by kernel_rfl)) (h := ?_)
                     refine pp_ (i := 8) (N := some 52) #[true, true, true, true, true, true, true, true, true, false, false, false, false, false, false, false, false, false, false, false, false, false, false, false, false, false] rfl rfl (any_of HT_.out (by kernel_rfl)) (h := ?_)
                     refine pp_ (i := 9) (N := some 53) #[true, true, true, true, true, true, true, true, true, true, false, false, false, false, false, false, false, false, false, false, false, false, false, false, false, false] rfl rfl (any_of HT_.out (by kernel_rfl)) (h := ?_)
                     refine pure_ (i := 10) (N := some 54) (v := undef) (a' := ?_) #[true, true, true, true, true, true, true, true, true, true, true, false, false, false, false, false, false, false, false, false, false, false, false, false, false, false] rfl rfl (any_of HT_.out (by kernel_rfl)) (fun _ _ _ h => h) (Or.inr ⟨by rfl, rfl⟩) ?_ ?_
                     rotate_left
                     ·simp only [Act.put, List.setIfInBounds_toArray, List.set_cons_zero, List.set_cons_succ, i64_w, i32_w]
                      rfl
                     refine pure_ (i := 11) (N := some 55) (v := undef) (a' := ?_) #[true, true, true, true, true, true, true, true, true, true, true, true, false, false, false, false, false, false, false, false, false, false, false, false, false, false] rfl rfl (any_of HT_.out (by kernel_rfl)) (fun _ _ _ h => h) (Or.inr ⟨by rfl, rfl⟩) ?_ ?_
                     rotate_left
                     ·simp only [Act.put, List.setIfInBounds_toArray, List.set_cons_zero, List.set_cons_succ, i64_w, i32_w]
                      rfl
                     refine pure_ (i := 12) (N := some 56) (v := undef) (a' := ?_) #[true, true, true, true, true, true, true, true, true, true, true, true, true, false, false, false, false, false, false, false, false, false, false, false, false, false] rfl rfl (any_of HT_.out (by kernel_rfl)) (fun _ _ _ h => h) (Or.inr ⟨by rfl, rfl⟩) ?_ ?_
                     rotate_left
                     ·simp only [Act.put, List.setIfInBounds_toArray, List.set_cons_zero, List.set_cons_succ, i64_w, i32_w]
                      rfl
                     refine pure_ (i := 13) (N := some 57) (v := undef) (a' := ?_) #[true, true, true, true, true, true, true, true, true, true, true, true, true, true, false, false, false, false, false, false, false, false, false, false, false, false] rfl rfl (any_of HT_.out (by kernel_rfl)) (fun _ _ _ h => h) (Or.inr ⟨by rfl, rfl⟩) ?_ ?_
                     rotate_left
                     ·simp only [Act.put, List.setIfInBounds_toArray, List.set_cons_zero, List.set_cons_succ, i64_w, i32_w]
                      rfl
                     refine pure_ (i := 14) (N := some 58) (v := undef) (a' := ?_) #[true, true, true, true, true, true, true, true, true, true, true, true, true, true, true, false, false, false, false, false, false, false, false, false, false, false] rfl rfl (any_of HT_.out (by kernel_rfl)) (fun _ _ _ h => h) (Or.inr ⟨by rfl, rfl⟩) ?_ ?_
                     rotate_left
                     ·simp only [Act.put, List.setIfInBounds_toArray, List.set_cons_zero, List.set_cons_succ, i64_w, i32_w]
                      rfl
                     refine pure_ (i := 15) (N := some 59) (v := undef) (a' := ?_) #[true, true, true, true, true, true, true, true, true, true, true, true, true, true, true, true, false, false, false, false, false, false, false, false, false, false] rfl rfl (any_of HT_.out (by kernel_rfl)) (fun _ _ _ h => h) (Or.inr ⟨by rfl, rfl⟩) ?_ ?_
                     rotate_left
                     ·simp only [Act.put, List.setIfInBounds_toArray, List.set_cons_zero, List.set_cons_succ, i64_w, i32_w]
                      rfl
                     refine pure_ (i := 16) (N := some 60) (v := undef) (a' := ?_) #[true, true, true, true, true, true, true, true, true, true, true, true, true, true, true, true, true, false, false, false, false, false, false, false, false, false] rfl rfl (any_of HT_.out (by kernel_rfl)) (fun _ _ _ h => h) (Or.inr ⟨by rfl, rfl⟩) ?_ ?_
                     rotate_left
                     ·simp only [Act.put, List.setIfInBounds_toArray, List.set_cons_zero, List.set_cons_succ, i64_w, i32_w]
                      rfl
                     refine pure_ (i := 17) (N := some 61) (v := undef) (a' := ?_) #[true, true, true, true, true, true, true, true, true, true, true, true, true, true, true, true, true, true, false, false, false, false, false, false, false, false] rfl rfl (any_of HT_.out (by kernel_rfl)) (fun _ _ _ h => h) (Or.inr ⟨by rfl, rfl⟩) ?_ ?_
                     rotate_left
                     ·simp only [Act.put, List.setIfInBounds_toArray, List.set_cons_zero, List.set_cons_succ, i64_w, i32_w]
                      rfl
                     refine pure_ (i := 18) (N := some 62) (v := undef) (a' := ?_) #[true, true, true, true, true, true, true, true, true, true, true, true, true, true, true, true, true, true, true, false, false, false, false, false, false, false] rfl rfl (any_of HT_.out (by kernel_rfl)) (fun _ _ _ h => h) (Or.inr ⟨by rfl, rfl⟩) ?_ ?_
                     rotate_left
                     ·simp only [Act.put, List.setIfInBounds_toArray, List.set_cons_zero, List.set_cons_succ, i64_w, i32_w]
                      rfl
                     refine pure_ (i := 19) (N := some 63) (v := undef) (a' := ?_) #[true, true, true, true, true, true, true, true, true, true, true, true, true, true, true, true, true, true, true, true, false, false, false, false, false, false] rfl rfl (any_of HT_.out (by kernel_rfl)) (fun _ _ _ h => h) (Or.inr ⟨by rfl, rfl⟩) ?_ ?_
                     rotate_left
                     ·simp only [Act.put, List.setIfInBounds_toArray, List.set_cons_zero, List.set_cons_succ, i64_w, i32_w]
                      rfl
                     refine pure_ (i := 20) (N := some 64) (v := undef) (a' := ?_) #[true, true, true, true, true, true, true, true, true, true, true, true, true, true, true, true, true, true, true, true, true, false, false, false, false, false] rfl rfl (any_of HT_.out (by kernel_rfl)) (fun _ _ _ h => h) (Or.inr ⟨by rfl, rfl⟩) ?_ ?_
                     rotate_left
                     ·simp only [Act.put, List.setIfInBounds_toArray, List.set_cons_zero, List.set_cons_succ, i64_w, i32_w]
                      rfl
                     refine pure_ (i := 21) (N := some 65) (v := undef) (a' := ?_) #[true, true, true, true, true, true, true, true, true, true, true, true, true, true, true, true, true, true, true, true, true, true, false, false, false, false] rfl rfl (any_of HT_.out (by kernel_rfl)) (fun _ _ _ h => h) (Or.inr ⟨by rfl, rfl⟩) ?_ ?_
                     rotate_left
                     ·simp only [Act.put, List.setIfInBounds_toArray, List.set_cons_zero, List.set_cons_succ, i64_w, i32_w]
                      rfl
                     refine pure_ (i := 22) (N := some 66) (v := undef) (a' := ?_) #[true, true, true, true, true, true, true, true, true, true, true, true, true, true, true, true, true, true, true, true, true, true, true, false, false, false] rfl rfl (any_of HT_.out (by kernel_rfl)) (fun _ _ _ h => h) (Or.inr ⟨by rfl, rfl⟩) ?_ ?_
                     rotate_left
                     ·simp only [Act.put, List.setIfInBounds_toArray, List.set_cons_zero, List.set_cons_succ, i64_w, i32_w]
                      rfl
                     refine pure_ (i := 23) (N := some 67) (v := undef) (a' := ?_) #[true, true, true, true, true, true, true, true, true, true, true, true, true, true, true, true, true, true, true, true, true, true, true, true, false, false] rfl rfl (any_of HT_.out (by kernel_rfl)) (fun _ _ _ h => h) (Or.inr ⟨by rfl, rfl⟩) ?_ ?_
                     rotate_left
                     ·simp only [Act.put, List.setIfInBounds_toArray, List.set_cons_zero, List.set_cons_succ, i64_w, i32_w]
                      rfl
                     refine pure_ (i := 24) (N := some 68) (v := undef) (a' := ?_) #[true, true, true, true, true, true, true, true, true, true, true, true, true, true, true, true, true, true, true, true, true, true, true, true, true, false] rfl rfl (any_of HT_.out (by kernel_rfl)) (fun _ _ _ h => h) (Or.inr ⟨by rfl, rfl⟩) ?_ ?_
                     rotate_left
                     ·simp only [Act.put, List.setIfInBounds_toArray, List.set_cons_zero, List.set_cons_succ, i64_w, i32_w]
                      rfl
                     refine pp_ (i := 25) (N := some 69) #[true, true, true, true, true, true, true, true, true, true, true, true, true, true, true, true, true, true, true, true, true, true, true, true, true, true] rfl rfl (any_of HT_.out (by kernel_rfl)) (h := ?_)
                     refine done_ (done_of HT_.out (by kernel_rfl)) ?_
                     try go_wp2
                     go_roundg k2
                     case measure => have := HK1.out; have := HK2.out; omega
                     case rel => exact ⟨(x7_2), (x8_2), (wrap64 (x37_2 + 1)), es_, es_, es_, H', ⟨by have := HK1.out; have := HK2.out; omega⟩, ⟨rw_ HO_4.out⟩, ⟨rw_ HO_35.out⟩, ⟨hb_ HB⟩⟩
                   ·rw [if_neg c27] at H
                    exact absurd H (by simp)
                  ·rw [if_neg c26] at H
                   exact absurd H (by simp)
                 ·rw [if_neg c24] at H
                  exact absurd H (by simp)
                ·rw [if_neg c23] at H
                 exact absurd H (by simp)
               ·rw [if_neg c22] at H
                have c22b0 : decide (x37_2 < (y177.length : Int)) = false := decide_eq_false c22
                clear c22
                by_cases c42 : x7_2.toList = ([] : List UInt8)
                ·rw [if_pos c42] at H
                 have c42b0 : (x7_2.toList == ([] : List UInt8)) = true := beq_iff_eq.mpr c42
                 have c42b1 : (x7_2.toList != ([] : List UInt8)) = false := bne_eq_false_iff_eq.mpr c42
                 clear c42
                 simp only [Option.some.injEq, Prod.mk.injEq] at H
                 obtain ⟨rfl, rfl⟩ := H
                 go_wp2
                 go_ret2
                 exact ⟨by first | rfl | (simp [errW_none, errW_some] <;> rfl) | (simp only [← hji11]; first | rfl | (simp [errW_none, errW_some] <;> rfl)) | (simp [*, errW_none, errW_some] <;> rfl), hb_ HB⟩
                ·rw [if_neg c42] at H
                 have c42b0 : (x7_2.toList == ([] : List UInt8)) = false := beq_eq_false_iff_ne.mpr c42
                 have c42b1 : (x7_2.toList != ([] : List UInt8)) = true := bne_iff_ne.mpr c42
                 by_cases c43 : x5_1.size + x7_2.size ≤ 9223372036854775807
                 ·rw [if_pos c43] at H
                  have c43b0 := eq_true c43
                  try (have c43b0x := c43b0; simp only [ByteArray.size_extract, Nat.min_self] at c43b0x)
                  have c43b1 : decide (x5_1.size + x7_2.size ≤ 9223372036854775807) = true := decide_eq_true c43
                  try have c43b2 : (9223372036854775807 < x5_1.size + x7_2.size) = False := eq_false (Nat.not_lt.2 c43)
                  have H' := Aside0.mk H
                  clear H
                  go_wp2
                  go_roundg k2
                  case measure => have := HK1.out; have := HK2.out; omega
                  case rel => exact ⟨(x5_1 ++ x7_2), (wrap64 (x6_1 + x8_2)), es_, es_, H', ⟨by have := HK1.out; have := HK2.out; omega⟩, ⟨rw_ HO_4.out⟩, ⟨hb_ HB⟩⟩
                 ·rw [if_neg c43] at H
                  exact absurd H (by simp)
            ·rw [if_neg c17] at H
             have c17b0 : ((a0.extract ((rd t172 x6_1) : Int).toNat ((rd t172 (ji11)) : Int).toNat).toList == ([60] : List UInt8)) = false := beq_eq_false_iff_ne.mpr c17
             have c17b1 : ((a0.extract ((rd t172 x6_1) : Int).toNat ((rd t172 (ji11)) : Int).toNat).toList != ([60] : List UInt8)) = true := bne_iff_ne.mpr c17
             replace H := Option.bind_eq_some_iff.mp H
             obtain ⟨t186, A440, H⟩ := H
             replace H : (if t186 = true then (if (a0.extract ((rd t172 x6_1) : Int).toNat ((rd t172 (ji11)) : Int).toNat).toList = ([] : List UInt8) then (some ((⟨#[]⟩ : ByteArray), 3)) else (if x5_1.size + (a0.extract ((rd t172 x6_1) : Int).toNat ((rd t172 (ji11)) : Int).toNat).size ≤ 9223372036854775807 then (calamusref13_Parse.l0 k1 a0 t172 (x5_1 ++ (a0.extract ((rd t172 x6_1) : Int).toNat ((rd t172 (ji11)) : Int).toNat)) ji11) else (none))) else (if ([] : List UInt8) = ([] : List UInt8) then (some ((⟨#[]⟩ : ByteArray), 3)) else (if x5_1.size + 0 ≤ 9223372036854775807 then (calamusref13_Parse.l0 k1 a0 t172 (x5_1 ++ (⟨#[]⟩ : ByteArray)) ji11) else (none)))) = some (r1, r2) := H
             have A44 := Aside0.mk A440
             clear A440
             by_cases c45 : t186 = true
             ·subst c45
              have H1 : (if (a0.extract ((rd t172 x6_1) : Int).toNat ((rd t172 (ji11)) : Int).toNat).toList = ([] : List UInt8) then (some ((⟨#[]⟩ : ByteArray), 3)) else (if x5_1.size + (a0.extract ((rd t172 x6_1) : Int).toNat ((rd t172 (ji11)) : Int).toNat).size ≤ 9223372036854775807 then (calamusref13_Parse.l0 k1 a0 t172 (x5_1 ++ (a0.extract ((rd t172 x6_1) : Int).toNat ((rd t172 (ji11)) : Int).toNat)) ji11) else (none))) = some (r1, r2) := by rw [if_pos rfl] at H; exact H
              clear H
              have H := H1
              clear H1
              by_cases c46 : (a0.extract ((rd t172 x6_1) : Int).toNat ((rd t172 (ji11)) : Int).toNat).toList = ([] : List UInt8)
              ·rw [if_pos c46] at H
               have c46b0 : ((a0.extract ((rd t172 x6_1) : Int).toNat ((rd t172 (ji11)) : Int).toNat).toList == ([] : List UInt8)) = true := beq_iff_eq.mpr c46
               have c46b1 : ((a0.extract ((rd t172 x6_1) : Int).toNat ((rd t172 (ji11)) : Int).toNat).toList != ([] : List UInt8)) = false := bne_eq_false_iff_eq.mpr c46
               clear c46
               simp only [Option.some.injEq, Prod.mk.injEq] at H
               obtain ⟨rfl, rfl⟩ := H
               try go_wp2
               have n0_ := Aside0.mk (Kd.R_drew HO_4.out)
               have n1_ := Aside0.mk (below_drew1 HB.out)
               clear HO_4
               clear HB
               have HO_4 := n0_
               have HB := n1_
               clear n0_ n1_
               have p175 : 0 ≤ (x6_1 : Int) := of_decide_eq_true as_
               have q175 : x6_1 < (t172.length : Int) := of_decide_eq_true as_
               obtain ⟨ad175, e175, hx175_0⟩ := Kd.at_int (Kd.R_reads' HO_4.out).2.2 x6_1 p175 q175
               cases e175
               replace p175 := eq_true p175
               replace q175 := eq_true q175
               have p176 : 0 ≤ ((ji11) : Int) := of_decide_eq_true as_
               have q176 : (ji11) < (t172.length : Int) := of_decide_eq_true as_
               obtain ⟨ad176, e176, hx176_0⟩ := Kd.at_int (Kd.R_reads' HO_4.out).2.2 (ji11) p176 q176
               obtain rfl : ad175 = ad176 := (by injection e176)
               replace p176 := eq_true p176
               replace q176 := eq_true q176
               refine start_ (n := 12) (S := fun w' => w'.cell? (ad175.add (x6_1).toNat) = some (.int .i64 (rd t172 x6_1)) ∧ w'.cell? (ad175.add ((ji11)).toNat) = some (.int .i64 (rd t172 (ji11)))) (ds := []) #[false, false, false, false, false, false, false, false, false, false, false, false] (by kernel_rfl) rfl rfl ⟨hx175_0, hx176_0⟩ (fun hHeld => ?_); refine with_tabW calamusref13_Parse.tab7 calamusref13_Parse.bits7 (fun HT_ HW_ => ?_)
               generalize wr.drew = w47 at HO_4 HB hx175_0 hx176_0 hHeld ⊢
               refine pp_ (i := 0) (N := some 22) #[true, false, false, false, false, false, false, false, false, false, false, false] rfl rfl (any_of HT_.out (by kernel_rfl)) (h := ?_)
               refine pp_ (i := 1) (N := some 23) #[true, true, false, false, false, false, false, false, false, false, false, false] rfl rfl (any_of HT_.out (by kernel_rfl)) (h := ?_)
               refine pp_ (i := 2) (N := some 24) #[true, true, true, false, false, false, false, false, false, false, false, false] rfl rfl (any_of HT_.out (by kernel_rfl)) (h := ?_)
               refine pp_ (i := 3) (N := some 25) #[true, true, true, true, false, false, false, false, false, false, false, false] rfl rfl (any_of HT_.out (by kernel_rfl)) (h := ?_)
               refine pp_ (i := 5) (N := some 27) #[true, true, true, true, false, true, false, false, false, false, false, false] rfl rfl (any_of HT_.out (by kernel_rfl)) (h := ?_)
               refine pp_ (i := 6) (N := some 28) #[true, true, true, true, false, true, true, false, false, false, false, false] rfl rfl (any_of HT_.out (by kernel_rfl)) (h := ?_)
               refine pp_ (i := 7) (N := some 29) #[true, true, true, true, false, true, true, true, false, false, false, false] rfl rfl (any_of HT_.out (by kernel_rfl)) (h := ?_)
               refine pp_ (i := 8) (N := some 30) #[true, true, true, true, false, true, true, true, true, false, false, false] rfl rfl (any_of HT_.out (by kernel_rfl)) (h := ?_)
               refine take_ (i := 4) (N := some 26) (v := ?_) (a' := ?_) #[true, true, true, true, true, true, true, true, true, false, false, false] rfl rfl (take_ofW HT_.out HW_.out (by kernel_rfl)) (fun _ _ _ h => h) (Or.inl ⟨by rfl, ?_⟩) hHeld ?_ ?_
               rotate_left
               ·rintro w' ⟨s0, s1⟩
                go_simp
                with_reducible rfl
               rotate_left
               ·simp only [Act.put, List.setIfInBounds_toArray, List.set_cons_zero, List.set_cons_succ, i64_w, i32_w]
                rfl
               refine take_ (i := 9) (N := some 31) (v := ?_) (a' := ?_) #[true, true, true, true, true, true, true, true, true, true, false, false] rfl rfl (take_ofW HT_.out HW_.out (by kernel_rfl)) (fun _ _ _ h => h) (Or.inl ⟨by rfl, ?_⟩) hHeld ?_ ?_
               rotate_left
               ·rintro w' ⟨s0, s1⟩
                go_simp
                with_reducible rfl
               rotate_left
               ·simp only [Act.put, List.setIfInBounds_toArray, List.set_cons_zero, List.set_cons_succ, i64_w, i32_w]
                rfl
               refine pp_ (i := 10) (N := some 32) #[true, true, true, true, true, true, true, true, true, true, true, false] rfl rfl (any_of HT_.out (by kernel_rfl)) (h := ?_)
               refine pp_ (i := 11) (N := some 7) #[true, true, true, true, true, true, true, true, true, true, true, true] rfl rfl (any_of HT_.out (by kernel_rfl)) (h := ?_)
               refine done_ (done_of HT_.out (by kernel_rfl)) ?_
               try go_wp2_with (first | ((with_reducible refine gate_callee (f := 40) rfl ?_); refine goesL_ (some 74) rfl rfl Try.func40 (by kernel_rfl) rfl #[.string (a0.extract ((rd t172 x6_1) : Int).toNat ((rd t172 (ji11)) : Int).toNat)] rfl (by (try simp only [List.map_toArray, List.map_cons, List.map_nil]); first | done | (simp only [hji11]; rfl) | rfl | (simp only [List.length_drop, List.length_take]; rfl)) ?_; (with_reducible refine (calamusref13_Sign.calls k1 (a0.extract ((rd t172 x6_1) : Int).toNat ((rd t172 (ji11)) : Int).toNat) true _ A44.out).mono ?_); rintro e w48 ⟨rfl, hb⟩; refine ⟨_, rfl, ?_⟩; replace HO_4 := Aside0.mk (Kd.R_below (rw_ HO_4.out) hb); replace HB := bs_ HB hb; (try clear hb); (try clear hb2); (try clear hk); (try clear hi)))
               go_ret2
               exact ⟨by first | rfl | (simp [errW_none, errW_some] <;> rfl) | (simp only [← hji11]; first | rfl | (simp [errW_none, errW_some] <;> rfl)) | (simp [*, errW_none, errW_some] <;> rfl), hb_ HB⟩
              ·rw [if_neg c46] at H
               have c46b0 : ((a0.extract ((rd t172 x6_1) : Int).toNat ((rd t172 (ji11)) : Int).toNat).toList == ([] : List UInt8)) = false := beq_eq_false_iff_ne.mpr c46
               have c46b1 : ((a0.extract ((rd t172 x6_1) : Int).toNat ((rd t172 (ji11)) : Int).toNat).toList != ([] : List UInt8)) = true := bne_iff_ne.mpr c46
               by_cases c49 : x5_1.size + (a0.extract ((rd t172 x6_1) : Int).toNat ((rd t172 (ji11)) : Int).toNat).size ≤ 9223372036854775807
               ·rw [if_pos c49] at H
                have c49b0 := eq_true c49
                try (have c49b0x := c49b0; simp only [ByteArray.size_extract, Nat.min_self] at c49b0x)
                have c49b1 : decide (x5_1.size + (a0.extract ((rd t172 x6_1) : Int).toNat ((rd t172 (ji11)) : Int).toNat).size ≤ 9223372036854775807) = true := decide_eq_true c49
                try (have c49b1x := c49b1; simp [-decide_eq_true_eq, -decide_eq_false_iff_not, c14b0, c15b0, c16b0, c49b0] at c49b1x)
                try have c49b2 : (9223372036854775807 < x5_1.size + (a0.extract ((rd t172 x6_1) : Int).toNat ((rd t172 (ji11)) : Int).toNat).size) = False := eq_false (Nat.not_lt.2 c49)
                have H' := Aside0.mk H
                clear H
                try go_wp2
                have n0_ := Aside0.mk (Kd.R_drew HO_4.out)
                have n1_ := Aside0.mk (below_drew1 HB.out)
                clear HO_4
                clear HB
                have HO_4 := n0_
                have HB := n1_
                clear n0_ n1_
                have p175 : 0 ≤ (x6_1 : Int) := of_decide_eq_true as_
                have q175 : x6_1 < (t172.length : Int) := of_decide_eq_true as_
                obtain ⟨ad175, e175, hx175_0⟩ := Kd.at_int (Kd.R_reads' HO_4.out).2.2 x6_1 p175 q175
                cases e175
                replace p175 := eq_true p175
                replace q175 := eq_true q175
                have p176 : 0 ≤ ((ji11) : Int) := of_decide_eq_true as_
                have q176 : (ji11) < (t172.length : Int) := of_decide_eq_true as_
                obtain ⟨ad176, e176, hx176_0⟩ := Kd.at_int (Kd.R_reads' HO_4.out).2.2 (ji11) p176 q176
                obtain rfl : ad175 = ad176 := (by injection e176)
                replace p176 := eq_true p176
                replace q176 := eq_true q176
                refine start_ (n := 12) (S := fun w' => w'.cell? (ad175.add (x6_1).toNat) = some (.int .i64 (rd t172 x6_1)) ∧ w'.cell? (ad175.add ((ji11)).toNat) = some (.int .i64 (rd t172 (ji11)))) (ds := []) #[false, false, false, false, false, false, false, false, false, false, false, false] (by kernel_rfl) rfl rfl ⟨hx175_0, hx176_0⟩ (fun hHeld => ?_); refine with_tabW calamusref13_Parse.tab7 calamusref13_Parse.bits7 (fun HT_ HW_ => ?_)
                generalize wr.drew = w50 at HO_4 HB hx175_0 hx176_0 hHeld ⊢
                refine pp_ (i := 0) (N := some 22) #[true, false, false, false, false, false, false, false, false, false, false, false] rfl rfl (any_of HT_.out (by kernel_rfl)) (h := ?_)
                refine pp_ (i := 1) (N := some 23) #[true, true, false, false, false, false, false, false, false, false, false, false] rfl rfl (any_of HT_.out (by kernel_rfl)) (h := ?_)
                refine pp_ (i := 2) (N := some 24) #[true, true, true, false, false, false, false, false, false, false, false, false] rfl rfl (any_of HT_.out (by kernel_rfl)) (h := ?_)
                refine pp_ (i := 3) (N := some 25) #[true, true, true, true, false, false, false, false, false, false, false, false] rfl rfl (any_of HT_.out (by kernel_rfl)) (h := ?_)
                refine pp_ (i := 5) (N := some 27) #[true, true, true, true, false, true, false, false, false, false, false, false] rfl rfl (any_of HT_.out (by kernel_rfl)) (h := ?_)
                refine pp_ (i := 6) (N := some 28) #[true, true, true, true, false, true, true, false, false, false, false, false] rfl rfl (any_of HT_.out (by kernel_rfl)) (h := ?_)
                refine pp_ (i := 7) (N := some 29) #[true, true, true, true, false, true, true, true, false, false, false, false] rfl rfl (any_of HT_.out (by kernel_rfl)) (h := ?_)
                refine pp_ (i := 8) (N := some 30) #[true, true, true, true, false, true, true, true, true, false, false, false] rfl rfl (any_of HT_.out (by kernel_rfl)) (h := ?_)
                refine take_ (i := 4) (N := some 26) (v := ?_) (a' := ?_) #[true, true, true, true, true, true, true, true, true, false, false, false] rfl rfl (take_ofW HT_.out HW_.out (by kernel_rfl)) (fun _ _ _ h => h) (Or.inl ⟨by rfl, ?_⟩) hHeld ?_ ?_
                rotate_left
                ·rintro w' ⟨s0, s1⟩
                 go_simp
                 with_reducible rfl
                rotate_left
                ·simp only [Act.put, List.setIfInBounds_toArray, List.set_cons_zero, List.set_cons_succ, i64_w, i32_w]
                 rfl
                refine take_ (i := 9) (N := some 31) (v := ?_) (a' := ?_) #[true, true, true, true, true, true, true, true, true, true, false, false] rfl rfl (take_ofW HT_.out HW_.out (by kernel_rfl)) (fun _ _ _ h => h) (Or.inl ⟨by rfl, ?_⟩) hHeld ?_ ?_
                rotate_left
                ·rintro w' ⟨s0, s1⟩
                 go_simp
                 with_reducible rfl
                rotate_left
                ·simp only [Act.put, List.setIfInBounds_toArray, List.set_cons_zero, List.set_cons_succ, i64_w, i32_w]
                 rfl
                refine pp_ (i := 10) (N := some 32) #[true, true, true, true, true, true, true, true, true, true, true, false] rfl rfl (any_of HT_.out (by kernel_rfl)) (h := ?_)
                refine pp_ (i := 11) (N := some 7) #[true, true, true, true, true, true, true, true, true, true, true, true] rfl rfl (any_of HT_.out (by kernel_rfl)) (h := ?_)
                refine done_ (done_of HT_.out (by kernel_rfl)) ?_
                try go_wp2_with (first | ((with_reducible refine gate_callee (f := 40) rfl ?_); refine goesL_ (some 74) rfl rfl Try.func40 (by kernel_rfl) rfl #[.string (a0.extract ((rd t172 x6_1) : Int).toNat ((rd t172 (ji11)) : Int).toNat)] rfl (by (try simp only [List.map_toArray, List.map_cons, List.map_nil]); first | done | (simp only [hji11]; rfl) | rfl | (simp only [List.length_drop, List.length_take]; rfl)) ?_; (with_reducible refine (calamusref13_Sign.calls k1 (a0.extract ((rd t172 x6_1) : Int).toNat ((rd t172 (ji11)) : Int).toNat) true _ A44.out).mono ?_); rintro e w51 ⟨rfl, hb⟩; refine ⟨_, rfl, ?_⟩; replace HO_4 := Aside0.mk (Kd.R_below (rw_ HO_4.out) hb); replace HB := bs_ HB hb; (try clear hb); (try clear hb2); (try clear hk); (try clear hi)))
                go_roundg k1
                case measure => have := HK1.out; omega
                case rel => exact ⟨(x5_1 ++ (a0.extract ((rd t172 x6_1) : Int).toNat ((rd t172 (ji11)) : Int).toNat)), (ji11), (by first | rfl | (simp; done) | (simp only [← hji11] <;> (first | rfl | simp)) | (simp [*]; done)), (by first | rfl | (simp; done) | (simp only [← hji11] <;> (first | rfl | simp)) | (simp [*]; done)), H', ⟨by have := HK1.out; omega⟩, ⟨rw_ HO_4.out⟩, ⟨hb_ HB⟩⟩
               ·rw [if_neg c49] at H
                exact absurd H (by simp)
             ·replace c45 := Bool.eq_false_iff.mpr c45
              subst c45
              have H1 : (if ([] : List UInt8) = ([] : List UInt8) then (some ((⟨#[]⟩ : ByteArray), 3)) else (if x5_1.size + 0 ≤ 9223372036854775807 then (calamusref13_Parse.l0 k1 a0 t172 (x5_1 ++ (⟨#[]⟩ : ByteArray)) ji11) else (none))) = some (r1, r2) := by rw [if_neg (show ¬ (false = true) by decide)] at H; exact H
              clear H
              have H := H1
              clear H1
              by_cases c52 : ([] : List UInt8) = ([] : List UInt8)
              ·rw [if_pos c52] at H
               have c52b0 : (([] : List UInt8) == ([] : List UInt8)) = true := beq_iff_eq.mpr c52
               have c52b1 : (([] : List UInt8) != ([] : List UInt8)) = false := bne_eq_false_iff_eq.mpr c52
               clear c52
               simp only [Option.some.injEq, Prod.mk.injEq] at H
               obtain ⟨rfl, rfl⟩ := H
               try go_wp2
               have n0_ := Aside0.mk (Kd.R_drew HO_4.out)
               have n1_ := Aside0.mk (below_drew1 HB.out)
               clear HO_4
               clear HB
               have HO_4 := n0_
               have HB := n1_
               clear n0_ n1_
               have p175 : 0 ≤ (x6_1 : Int) := of_decide_eq_true as_
               have q175 : x6_1 < (t172.length : Int) := of_decide_eq_true as_
               obtain ⟨ad175, e175, hx175_0⟩ := Kd.at_int (Kd.R_reads' HO_4.out).2.2 x6_1 p175 q175
               cases e175
               replace p175 := eq_true p175
               replace q175 := eq_true q175
               have p176 : 0 ≤ ((ji11) : Int) := of_decide_eq_true as_
               have q176 : (ji11) < (t172.length : Int) := of_decide_eq_true as_
               obtain ⟨ad176, e176, hx176_0⟩ := Kd.at_int (Kd.R_reads' HO_4.out).2.2 (ji11) p176 q176
               obtain rfl : ad175 = ad176 := (by injection e176)
               replace p176 := eq_true p176
               replace q176 := eq_true q176
               refine start_ (n := 12) (S := fun w' => w'.cell? (ad175.add (x6_1).toNat) = some (.int .i64 (rd t172 x6_1)) ∧ w'.cell? (ad175.add ((ji11)).toNat) = some (.int .i64 (rd t172 (ji11)))) (ds := []) #[false, false, false, false, false, false, false, false, false, false, false, false] (by kernel_rfl) rfl rfl ⟨hx175_0, hx176_0⟩ (fun hHeld => ?_); refine with_tabW calamusref13_Parse.tab7 calamusref13_Parse.bits7 (fun HT_ HW_ => ?_)
               generalize wr.drew = w53 at HO_4 HB hx175_0 hx176_0 hHeld ⊢
               refine pp_ (i := 0) (N := some 22) #[true, false, false, false, false, false, false, false, false, false, false, false] rfl rfl (any_of HT_.out (by kernel_rfl)) (h := ?_)
               refine pp_ (i := 1) (N := some 23) #[true, true, false, false, false, false, false, false, false, false, false, false] rfl rfl (any_of HT_.out (by kernel_rfl)) (h := ?_)
               refine pp_ (i := 2) (N := some 24) #[true, true, true, false, false, false, false, false, false, false, false, false] rfl rfl (any_of HT_.out (by kernel_rfl)) (h := ?_)
               refine pp_ (i := 3) (N := some 25) #[true, true, true, true, false, false, false, false, false, false, false, false] rfl rfl (any_of HT_.out (by kernel_rfl)) (h := ?_)
               refine pp_ (i := 5) (N := some 27) #[true, true, true, true, false, true, false, false, false, false, false, false] rfl rfl (any_of HT_.out (by kernel_rfl)) (h := ?_)
               refine pp_ (i := 6) (N := some 28) #[true, true, true, true, false, true, true, false, false, false, false, false] rfl rfl (any_of HT_.out (by kernel_rfl)) (h := ?_)
               refine pp_ (i := 7) (N := some 29) #[true, true, true, true, false, true, true, true, false, false, false, false] rfl rfl (any_of HT_.out (by kernel_rfl)) (h := ?_)
               refine pp_ (i := 8) (N := some 30) #[true, true, true, true, false, true, true, true, true, false, false, false] rfl rfl (any_of HT_.out (by kernel_rfl)) (h := ?_)
               refine take_ (i := 4) (N := some 26) (v := ?_) (a' := ?_) #[true, true, true, true, true, true, true, true, true, false, false, false] rfl rfl (take_ofW HT_.out HW_.out (by kernel_rfl)) (fun _ _ _ h => h) (Or.inl ⟨by rfl, ?_⟩) hHeld ?_ ?_
               rotate_left
               ·rintro w' ⟨s0, s1⟩
                go_simp
                with_reducible rfl
               rotate_left
               ·simp only [Act.put, List.setIfInBounds_toArray, List.set_cons_zero, List.set_cons_succ, i64_w, i32_w]
                rfl
               refine take_ (i := 9) (N := some 31) (v := ?_) (a' := ?_) #[true, true, true, true, true, true, true, true, true, true, false, false] rfl rfl (take_ofW HT_.out HW_.out (by kernel_rfl)) (fun _ _ _ h => h) (Or.inl ⟨by rfl, ?_⟩) hHeld ?_ ?_
               rotate_left
               ·rintro w' ⟨s0, s1⟩
                go_simp
                with_reducible rfl
               rotate_left
               ·simp only [Act.put, List.setIfInBounds_toArray, List.set_cons_zero, List.set_cons_succ, i64_w, i32_w]
                rfl
               refine pp_ (i := 10) (N := some 32) #[true, true, true, true, true, true, true, true, true, true, true, false] rfl rfl (any_of HT_.out (by kernel_rfl)) (h := ?_)
               refine pp_ (i := 11) (N := some 7) #[true, true, true, true, true, true, true, true, true, true, true, true] rfl rfl (any_of HT_.out (by kernel_rfl)) (h := ?_)
               refine done_ (done_of HT_.out (by kernel_rfl)) ?_
               try go_wp2_with (first | ((with_reducible refine gate_callee (f := 40) rfl ?_); refine goesL_ (some 74) rfl rfl Try.func40 (by kernel_rfl) rfl #[.string (a0.extract ((rd t172 x6_1) : Int).toNat ((rd t172 (ji11)) : Int).toNat)] rfl (by (try simp only [List.map_toArray, List.map_cons, List.map_nil]); first | done | (simp only [hji11]; rfl) | rfl | (simp only [List.length_drop, List.length_take]; rfl)) ?_; (with_reducible refine (calamusref13_Sign.calls k1 (a0.extract ((rd t172 x6_1) : Int).toNat ((rd t172 (ji11)) : Int).toNat) false _ A44.out).mono ?_); rintro e w54 ⟨rfl, hb⟩; refine ⟨_, rfl, ?_⟩; replace HO_4 := Aside0.mk (Kd.R_below (rw_ HO_4.out) hb); replace HB := bs_ HB hb; (try clear hb); (try clear hb2); (try clear hk); (try clear hi)))
               go_ret2
               exact ⟨by first | rfl | (simp [errW_none, errW_some] <;> rfl) | (simp only [← hji11]; first | rfl | (simp [errW_none, errW_some] <;> rfl)) | (simp [*, errW_none, errW_some] <;> rfl), hb_ HB⟩
              ·rw [if_neg c52] at H
               exact absurd rfl c52
           ·rw [if_neg c16] at H
            exact absurd H (by simp)
          ·rw [if_neg c15] at H
           exact absurd H (by simp)
         ·rw [if_neg c14] at H
          exact absurd H (by simp)
        ·rw [if_neg c13] at H
         exact absurd H (by simp)
       ·rw [if_neg c12] at H
        exact absurd H (by simp)
      ·rw [if_neg c10] at H
       exact absurd H (by simp)
     ·rw [if_neg c9] at H
      exact absurd H (by simp)
    ·rw [if_neg c8] at H
     have c8b0 : decide (x6_1 < (wrap64 ((t172.length : Int) - 1))) = false := decide_eq_false c8
     clear c8
     simp only [Option.some.injEq, Prod.mk.injEq] at H
     obtain ⟨rfl, rfl⟩ := H
     go_wp2
     go_ret2
     exact ⟨er_, hb_ HB⟩

end Go.Proofs.Ytealbonfaebikaa.PKeyTexts
