/- Of the law calamus/calamuslaw13.KeyTexts: each function as a plain Lean function, with a proof that the call comes to it; the row. By wip/tpl/own_print.py. Conditions: none but the row's own. -/
import Derived.Test.YtealbonfaebikaaOKeyTextsx0
import Derived.Test.YtealbonfaebikaaOKeyTextsx1
import Derived.Test.YtealbonfaebikaaOKeyTextsx2
import Derived.Test.YtealbonfaebikaaOKeyTextsx3
namespace Go.Proofs.Ytealbonfaebikaa.PKeyTexts
open Go.RowKit Go.Proofs.YtealbonfaebikaaW.PrintWords Go.Proofs.YtealbonfaebikaaW.PrintLast Go.Proofs.YtealbonfaebikaaW.PrintMore
attribute [local go_sem] max2_int min2_int max_two min_two max_three min_three max_four min_four   -- for this text's walks alone
set_option linter.unusedVariables false
set_option linter.unusedSimpArgs false

/-! ### calamusref13_Split: function 46 -/
def calamusref13_Split.l0 : Nat → ByteArray → List Int → List ByteArray → Int → Option (List ByteArray × Int)
 | 0, _, _, _, _ => none
 | k + 1, x0, x4, x5, x6 => if (wrap64 (x6 + 1)) < (x4.length : Int) then (if 0 ≤ x6 then (if x6 < (x4.length : Int) then (if 0 ≤ (wrap64 (x6 + 1)) then (if 0 ≤ (rd x4 x6) then (if (rd x4 x6) ≤ (rd x4 (wrap64 (x6 + 1))) then (if (rd x4 (wrap64 (x6 + 1))) ≤ (x0.size : Int) then ((calamusref13_Right.f k (x0.extract ((rd x4 x6) : Int).toNat ((rd x4 (wrap64 (x6 + 1))) : Int).toNat)).bind fun t157 => (if t157 = true then (if x5.length < 8796093022208 then (calamusref13_Split.l0 k x0 x4 (x5 ++ [x0.extract ((rd x4 x6) : Int).toNat ((rd x4 (wrap64 (x6 + 1))) : Int).toNat]) (wrap64 (x6 + 1))) else (none)) else (some (([] : List ByteArray), 9)))) else (none)) else (none)) else (none)) else (none)) else (none)) else (none)) else (some (x5, 0))
def calamusref13_Split.f (k : Nat) (a0 : ByteArray) : Option (List ByteArray × Int) := (calamusref03_Split.f k a0).bind fun t152 => (if (t152.length : Int) = 0 then (some (([] : List ByteArray), 5)) else (calamusref13_Split.l0 k a0 t152 ([] : List ByteArray) 0))
theorem calamusref13_Split.mono_l : ∀ k, (∀ y0 y1 y2 y3, LeO (calamusref13_Split.l0 k y0 y1 y2 y3) (calamusref13_Split.l0 (k + 1) y0 y1 y2 y3))
 | 0 => fun _ _ _ _ r h => by simp [calamusref13_Split.l0] at h
 | k + 1 => by
  have ih0 := calamusref13_Split.mono_l k
  ·intro y0 y1 y2 y3
   unfold calamusref13_Split.l0
   repeat' first
   | (with_reducible exact ih0 _ _ _ _)
   | (with_reducible exact calamusref03_Split.mono _ _)
   | (with_reducible exact calamusref13_Right.mono _ _)
   | (with_reducible exact LeO.refl _)
   | (with_reducible exact LeO.none _)
   | (with_reducible refine LeO.ite ?_ ?_)
   | (with_reducible refine LeO.bind ?_ (fun _ => ?_))
   | exact ih0 _ _ _ _
   | exact calamusref03_Split.mono _ _
   | exact calamusref13_Right.mono _ _
   | exact LeO.none _
   | refine LeO.ite ?_ ?_
   | refine LeO.bind ?_ (fun _ => ?_)
theorem calamusref13_Split.mono : ∀ a0 k, LeO (calamusref13_Split.f k a0) (calamusref13_Split.f (k + 1) a0) := by
 intro a0 k
 have ih0 := calamusref13_Split.mono_l k
 unfold calamusref13_Split.f
 repeat' first
   | (with_reducible exact ih0 _ _ _ _)
   | (with_reducible exact calamusref03_Split.mono _ _)
   | (with_reducible exact calamusref13_Right.mono _ _)
   | (with_reducible exact LeO.refl _)
   | (with_reducible exact LeO.none _)
   | (with_reducible refine LeO.ite ?_ ?_)
   | (with_reducible refine LeO.bind ?_ (fun _ => ?_))
   | exact ih0 _ _ _ _
   | exact calamusref03_Split.mono _ _
   | exact calamusref13_Right.mono _ _
   | exact LeO.none _
   | refine LeO.ite ?_ ?_
   | refine LeO.bind ?_ (fun _ => ?_)
set_option maxHeartbeats 8000000 in
set_option maxRecDepth 100000 in
theorem calamusref13_Split.calls (k : Nat) (a0 : ByteArray) (r1 : List ByteArray) (r2 : Int) (w : World) (h : calamusref13_Split.f k a0 = some (r1, r2)) :
  Calls Try.prog 46 #[.string a0] w fun e w' => ∃ v0_ : Value, e = .returned (.tuple #[v0_, .int .i64 r2]) ∧ Kd.R Kd.string 9 w' w.heap.size (fun _ => True) v0_ r1 ∧ Below w.heap.size w w' := by
 have HB := Aside0.mk (Below.refl w.heap.size w)
 have H : ((calamusref03_Split.f k a0).bind fun t152 => (if (t152.length : Int) = 0 then (some (([] : List ByteArray), 5)) else (calamusref13_Split.l0 k a0 t152 ([] : List ByteArray) 0))) = some (r1, r2) := h
 clear h
 replace H := Option.bind_eq_some_iff.mp H
 obtain ⟨t152, A20, H⟩ := H
 replace H : (if (t152.length : Int) = 0 then (some (([] : List ByteArray), 5)) else (calamusref13_Split.l0 k a0 t152 ([] : List ByteArray) 0)) = some (r1, r2) := H
 have A2 := Aside0.mk A20
 clear A20
 by_cases c3 : (t152.length : Int) = 0
 ·rw [if_pos c3] at H
  have c3b0 : ((t152.length : Int) == 0) = true := beq_iff_eq.mpr c3
  have c3b1 : ((t152.length : Int) != 0) = false := bne_eq_false_iff_eq.mpr c3
  clear c3
  simp only [Option.some.injEq, Prod.mk.injEq] at H
  obtain ⟨rfl, rfl⟩ := H
  go_enter Try.func46, Try.ntmps46
  go_wp2_with (first | (go_at_call 75; (with_reducible refine (calamusref03_Split.calls k a0 t152 _ A2.out).mono ?_); rintro e w4 ⟨v153, rfl, ho0, hb⟩; have HO154 := Aside0.mk (Kd.R_lower ho0 (below_size (hb_ HB))); replace HB := bs_ HB hb; (try clear hb); (try clear hb2); (try clear hk); (try clear hi); (try clear ho0); obtain ⟨Ao5, co5, eo5⟩ := Kd.R_slice HO154.out; subst eo5))
  repeat (go_quiet (first | (go_at_call 75; (with_reducible refine (calamusref03_Split.calls k a0 t152 _ A2.out).mono ?_); rintro e w4 ⟨v153, rfl, ho0, hb⟩; have HO154 := Aside0.mk (Kd.R_lower ho0 (below_size (hb_ HB))); replace HB := bs_ HB hb; (try clear hb); (try clear hb2); (try clear hk); (try clear hi); (try clear ho0); obtain ⟨Ao5, co5, eo5⟩ := Kd.R_slice HO154.out; subst eo5)); try go_wp2_with (first | (go_at_call 75; (with_reducible refine (calamusref03_Split.calls k a0 t152 _ A2.out).mono ?_); rintro e w4 ⟨v153, rfl, ho0, hb⟩; have HO154 := Aside0.mk (Kd.R_lower ho0 (below_size (hb_ HB))); replace HB := bs_ HB hb; (try clear hb); (try clear hb2); (try clear hk); (try clear hi); (try clear ho0); obtain ⟨Ao5, co5, eo5⟩ := Kd.R_slice HO154.out; subst eo5)))
  go_ret2
  exact ⟨_, er_, by first | exact Kd.R_nil _ _ _ _ _ | exact Kd.N_nil _ _ _ _ _ | exact Kd.V_nil _ _ _ _ _ | exact Kd.Q_nil _ _ _ _ _ | exact Kd.S_nil _ _ _ _ _, hb_ HB⟩
 ·rw [if_neg c3] at H
  have c3b0 : ((t152.length : Int) == 0) = false := beq_eq_false_iff_ne.mpr c3
  have c3b1 : ((t152.length : Int) != 0) = true := bne_iff_ne.mpr c3
  have c3b2 : ¬ (t152 = []) := fun h_ => c3 (by rw [h_]; rfl)
  have H' := Aside0.mk H
  clear H
  go_enter Try.func46, Try.ntmps46
  go_wp2_with (first | (go_at_call 75; (with_reducible refine (calamusref03_Split.calls k a0 t152 _ A2.out).mono ?_); rintro e w6 ⟨v153, rfl, ho0, hb⟩; have HO154 := Aside0.mk (Kd.R_lower ho0 (below_size (hb_ HB))); replace HB := bs_ HB hb; (try clear hb); (try clear hb2); (try clear hk); (try clear hi); (try clear ho0); obtain ⟨Ao7, co7, eo7⟩ := Kd.R_slice HO154.out; subst eo7))
  repeat (go_quiet (first | (go_at_call 75; (with_reducible refine (calamusref03_Split.calls k a0 t152 _ A2.out).mono ?_); rintro e w6 ⟨v153, rfl, ho0, hb⟩; have HO154 := Aside0.mk (Kd.R_lower ho0 (below_size (hb_ HB))); replace HB := bs_ HB hb; (try clear hb); (try clear hb2); (try clear hk); (try clear hi); (try clear ho0); obtain ⟨Ao7, co7, eo7⟩ := Kd.R_slice HO154.out; subst eo7)); try go_wp2_with (first | (go_at_call 75; (with_reducible refine (calamusref03_Split.calls k a0 t152 _ A2.out).mono ?_); rintro e w6 ⟨v153, rfl, ho0, hb⟩; have HO154 := Aside0.mk (Kd.R_lower ho0 (below_size (hb_ HB))); replace HB := bs_ HB hb; (try clear hb); (try clear hb2); (try clear hk); (try clear hi); (try clear ho0); obtain ⟨Ao7, co7, eo7⟩ := Kd.R_slice HO154.out; subst eo7)))
  go_loopg [5, 6] k (fun kq v5 v6 w' => ∃ (x5_1 : List ByteArray) (x6_1 : Int), v6 = .int .i64 x6_1 ∧ Aside0 (calamusref13_Split.l0 kq a0 t152 x5_1 x6_1 = some (r1, r2)) ∧ Aside0 (kq ≤ k) ∧ Aside0 (Kd.R (Kd.int .i64) 3 w' w.heap.size (fun _ => True) (.slice Ao7 t152.length co7) t152) ∧ Aside0 (Kd.R Kd.string 9 w' w.heap.size (fun _ => True) v5 x5_1) ∧ Aside0 (Below w.heap.size w w'))
  case atStart => exact ⟨(([] : List ByteArray)), (0), es_, H', ⟨Nat.le_refl _⟩, ⟨rw_ HO154.out⟩, ⟨by first | exact Kd.R_nil _ _ _ _ _ | exact Kd.N_nil _ _ _ _ _ | exact Kd.V_nil _ _ _ _ _ | exact Kd.Q_nil _ _ _ _ _ | exact Kd.S_nil _ _ _ _ _⟩, ⟨hb_ HB⟩⟩
  case round =>
   clear H'
   try clear c3
   try clear c3b0
   try clear c3b1
   try clear c3b2
   obtain ⟨x5_1, x6_1, rfl, HA, HK1, HO_4, HO_5, HB⟩ := hrel
   cases gk with
   | zero => exact absurd HA.out (by simp [calamusref13_Split.l0])
   | succ k1 =>
    have H := HA.out
    clear HA
    simp only [calamusref13_Split.l0] at H
    by_cases c8 : (wrap64 (x6_1 + 1)) < (t152.length : Int)
    ·rw [if_pos c8] at H
     have c8b0 : decide ((wrap64 (x6_1 + 1)) < (t152.length : Int)) = true := decide_eq_true c8
     clear c8
     by_cases c9 : 0 ≤ x6_1
     ·rw [if_pos c9] at H
      have c9b0 : decide (0 ≤ x6_1) = true := decide_eq_true c9
      clear c9
      by_cases c10 : x6_1 < (t152.length : Int)
      ·rw [if_pos c10] at H
       have c10b0 : decide (x6_1 < (t152.length : Int)) = true := decide_eq_true c10
       clear c10
       obtain ⟨ji11, hji11⟩ : ∃ j_ : Int, (wrap64 (x6_1 + 1)) = j_ := ⟨_, rfl⟩
       replace H : (if 0 ≤ (ji11) then (if 0 ≤ (rd t152 x6_1) then (if (rd t152 x6_1) ≤ (rd t152 (ji11)) then (if (rd t152 (ji11)) ≤ (a0.size : Int) then ((calamusref13_Right.f k1 (a0.extract ((rd t152 x6_1) : Int).toNat ((rd t152 (ji11)) : Int).toNat)).bind fun t157 => (if t157 = true then (if x5_1.length < 8796093022208 then (calamusref13_Split.l0 k1 a0 t152 (x5_1 ++ [a0.extract ((rd t152 x6_1) : Int).toNat ((rd t152 (ji11)) : Int).toNat]) ji11) else (none)) else (some (([] : List ByteArray), 9)))) else (none)) else (none)) else (none)) else (none)) = some (r1, r2) := by first | (rw [hji11] at H; exact H) | (simp only [hji11] at H ⊢; exact H)
       (try rw [hji11] at c8b0)
       have hji11w : (IntKind.i64.wrap (x6_1 + 1)) = ji11 := (i64_w _).trans hji11
       try (have hji11x := hji11; simp only [ByteArray.size_extract, Nat.min_self] at hji11x)
       by_cases c12 : 0 ≤ (ji11)
       ·rw [if_pos c12] at H
        have c12b0 : decide (0 ≤ (ji11)) = true := decide_eq_true c12
        clear c12
        by_cases c13 : 0 ≤ (rd t152 x6_1)
        ·rw [if_pos c13] at H
         have c13b0 := eq_true c13
         try (have c13b0x := c13b0; simp only [ByteArray.size_extract, Nat.min_self] at c13b0x)
         have c13b1 : decide (0 ≤ (rd t152 x6_1)) = true := decide_eq_true c13
         clear c13
         by_cases c14 : (rd t152 x6_1) ≤ (rd t152 (ji11))
         ·rw [if_pos c14] at H
          have c14b0 := eq_true c14
          try (have c14b0x := c14b0; simp only [ByteArray.size_extract, Nat.min_self] at c14b0x)
          have c14b1 : decide ((rd t152 x6_1) ≤ (rd t152 (ji11))) = true := decide_eq_true c14
          clear c14
          by_cases c15 : (rd t152 (ji11)) ≤ (a0.size : Int)
          ·rw [if_pos c15] at H
           have c15b0 := eq_true c15
           try (have c15b0x := c15b0; simp only [ByteArray.size_extract, Nat.min_self] at c15b0x)
           have c15b1 : decide ((rd t152 (ji11)) ≤ (a0.size : Int)) = true := decide_eq_true c15
           clear c15
           replace H := Option.bind_eq_some_iff.mp H
           obtain ⟨t157, A160, H⟩ := H
           replace H : (if t157 = true then (if x5_1.length < 8796093022208 then (calamusref13_Split.l0 k1 a0 t152 (x5_1 ++ [a0.extract ((rd t152 x6_1) : Int).toNat ((rd t152 (ji11)) : Int).toNat]) ji11) else (none)) else (some (([] : List ByteArray), 9))) = some (r1, r2) := H
           have A16 := Aside0.mk A160
           clear A160
           by_cases c17 : t157 = true
           ·subst c17
            have H1 : (if x5_1.length < 8796093022208 then (calamusref13_Split.l0 k1 a0 t152 (x5_1 ++ [a0.extract ((rd t152 x6_1) : Int).toNat ((rd t152 (ji11)) : Int).toNat]) ji11) else (none)) = some (r1, r2) := by rw [if_pos rfl] at H; exact H
            clear H
            have H := H1
            clear H1
            by_cases c18 : x5_1.length < 8796093022208
            ·rw [if_pos c18] at H
             have LMc18 := Aside0.mk c18
             clear c18
             obtain ⟨y158, hy158⟩ : ∃ y_ : List ByteArray, y_ = (x5_1 ++ [a0.extract ((rd t152 x6_1) : Int).toNat ((rd t152 (ji11)) : Int).toNat]) := ⟨_, rfl⟩
             replace H : (calamusref13_Split.l0 k1 a0 t152 y158 ji11) = some (r1, r2) := th_ H hy158
             have Ny158 := Aside0.mk hy158
             clear hy158
             have H' := Aside0.mk H
             clear H
             have p155 : 0 ≤ (x6_1 : Int) := of_decide_eq_true as_
             have q155 : x6_1 < (t152.length : Int) := of_decide_eq_true as_
             obtain ⟨ad155, e155, hx155_0⟩ := Kd.at_int (Kd.R_reads' HO_4.out).2.2 x6_1 p155 q155
             cases e155
             replace p155 := eq_true p155
             replace q155 := eq_true q155
             have p156 : 0 ≤ ((ji11) : Int) := of_decide_eq_true as_
             have q156 : (ji11) < (t152.length : Int) := of_decide_eq_true as_
             obtain ⟨ad156, e156, hx156_0⟩ := Kd.at_int (Kd.R_reads' HO_4.out).2.2 (ji11) p156 q156
             obtain rfl : ad155 = ad156 := (by injection e156)
             replace p156 := eq_true p156
             replace q156 := eq_true q156
             go_wp2_with (first | (go_at_call 38; (with_reducible refine (calamusref13_Right.calls k1 (a0.extract ((rd t152 x6_1) : Int).toNat ((rd t152 (ji11)) : Int).toNat) true _ A16.out).mono ?_); rintro e w19 ⟨rfl, hb⟩; replace HO_4 := Aside0.mk (Kd.R_below (rw_ HO_4.out) hb); replace HO_5 := Aside0.mk (Kd.R_below (rw_ HO_5.out) hb); replace HB := bs_ HB hb; (try clear hb); (try clear hb2); (try clear hk); (try clear hi)) | ((with_reducible refine gate_builtin (b := .append) (xs := #[.tmp 34, .tmp 36]) rfl ?_); at_builtin; refine Kd.R_append Kd.string (w0 := w) w.heap.size rfl (.tmp 34) (.tmp 36) 75 9 (.string ⟨#[]⟩) 16 rfl Try.underlying75 info9 rfl (by decide) (by omega) u5 x5_1 (a0.extract ((rd t152 x6_1) : Int).toNat ((rd t152 (ji11)) : Int).toNat) [.string (a0.extract ((rd t152 x6_1) : Int).toNat ((rd t152 (ji11)) : Int).toNat)] (fun _ => True) (fun _ => False) rfl rfl ?aP (fun _ hk => hk.elim) ?aF ?aO ?aB ?aS ?aL ?_; (case aP => exact rfl); (case aB => exact (hb_ HB)); (case aF => exact (fun _ _ => trivial)); (case aO => exact (rw_ HO_5.out)); (case aS => exact (below_size (hb_ HB))); (case aL => have := LMc18.out; omega); intro v159 w20 ho hb hg hat; rw [← Ny158.out] at ho; have n0_ := Aside0.mk (Kd.R_over' (rw_ HO_4.out) (Kd.R_typed (rw_ HO_5.out)) (by decide) hg); have n1_ := Aside0.mk (hb); have n2_ := Aside0.mk (ho); clear HO_4; clear HB; clear HO_5; have HO_4 := n0_; have HB := n1_; have HO160 := n2_; clear n0_ n1_ n2_; clear ho hb hg hat))
             repeat (go_quiet (first | (go_at_call 38; (with_reducible refine (calamusref13_Right.calls k1 (a0.extract ((rd t152 x6_1) : Int).toNat ((rd t152 (ji11)) : Int).toNat) true _ A16.out).mono ?_); rintro e w19 ⟨rfl, hb⟩; replace HO_4 := Aside0.mk (Kd.R_below (rw_ HO_4.out) hb); replace HO_5 := Aside0.mk (Kd.R_below (rw_ HO_5.out) hb); replace HB := bs_ HB hb; (try clear hb); (try clear hb2); (try clear hk); (try clear hi)) | ((with_reducible refine gate_builtin (b := .append) (xs := #[.tmp 34, .tmp 36]) rfl ?_); at_builtin; refine Kd.R_append Kd.string (w0 := w) w.heap.size rfl (.tmp 34) (.tmp 36) 75 9 (.string ⟨#[]⟩) 16 rfl Try.underlying75 info9 rfl (by decide) (by omega) u5 x5_1 (a0.extract ((rd t152 x6_1) : Int).toNat ((rd t152 (ji11)) : Int).toNat) [.string (a0.extract ((rd t152 x6_1) : Int).toNat ((rd t152 (ji11)) : Int).toNat)] (fun _ => True) (fun _ => False) rfl rfl ?aP (fun _ hk => hk.elim) ?aF ?aO ?aB ?aS ?aL ?_; (case aP => exact rfl); (case aB => exact (hb_ HB)); (case aF => exact (fun _ _ => trivial)); (case aO => exact (rw_ HO_5.out)); (case aS => exact (below_size (hb_ HB))); (case aL => have := LMc18.out; omega); intro v159 w20 ho hb hg hat; rw [← Ny158.out] at ho; have n0_ := Aside0.mk (Kd.R_over' (rw_ HO_4.out) (Kd.R_typed (rw_ HO_5.out)) (by decide) hg); have n1_ := Aside0.mk (hb); have n2_ := Aside0.mk (ho); clear HO_4; clear HB; clear HO_5; have HO_4 := n0_; have HB := n1_; have HO160 := n2_; clear n0_ n1_ n2_; clear ho hb hg hat)); try go_wp2_with (first | (go_at_call 38; (with_reducible refine (calamusref13_Right.calls k1 (a0.extract ((rd t152 x6_1) : Int).toNat ((rd t152 (ji11)) : Int).toNat) true _ A16.out).mono ?_); rintro e w19 ⟨rfl, hb⟩; replace HO_4 := Aside0.mk (Kd.R_below (rw_ HO_4.out) hb); replace HO_5 := Aside0.mk (Kd.R_below (rw_ HO_5.out) hb); replace HB := bs_ HB hb; (try clear hb); (try clear hb2); (try clear hk); (try clear hi)) | ((with_reducible refine gate_builtin (b := .append) (xs := #[.tmp 34, .tmp 36]) rfl ?_); at_builtin; refine Kd.R_append Kd.string (w0 := w) w.heap.size rfl (.tmp 34) (.tmp 36) 75 9 (.string ⟨#[]⟩) 16 rfl Try.underlying75 info9 rfl (by decide) (by omega) u5 x5_1 (a0.extract ((rd t152 x6_1) : Int).toNat ((rd t152 (ji11)) : Int).toNat) [.string (a0.extract ((rd t152 x6_1) : Int).toNat ((rd t152 (ji11)) : Int).toNat)] (fun _ => True) (fun _ => False) rfl rfl ?aP (fun _ hk => hk.elim) ?aF ?aO ?aB ?aS ?aL ?_; (case aP => exact rfl); (case aB => exact (hb_ HB)); (case aF => exact (fun _ _ => trivial)); (case aO => exact (rw_ HO_5.out)); (case aS => exact (below_size (hb_ HB))); (case aL => have := LMc18.out; omega); intro v159 w20 ho hb hg hat; rw [← Ny158.out] at ho; have n0_ := Aside0.mk (Kd.R_over' (rw_ HO_4.out) (Kd.R_typed (rw_ HO_5.out)) (by decide) hg); have n1_ := Aside0.mk (hb); have n2_ := Aside0.mk (ho); clear HO_4; clear HB; clear HO_5; have HO_4 := n0_; have HB := n1_; have HO160 := n2_; clear n0_ n1_ n2_; clear ho hb hg hat)))
             go_roundg k1
             case measure => have := HK1.out; omega
             case rel => exact ⟨(y158), (ji11), (by first | rfl | (simp; done) | (simp only [← hji11] <;> (first | rfl | simp)) | (simp [*]; done)), H', ⟨by have := HK1.out; omega⟩, ⟨rw_ HO_4.out⟩, ⟨rw_ HO160.out⟩, ⟨hb_ HB⟩⟩
            ·rw [if_neg c18] at H
             exact absurd H (by simp)
           ·replace c17 := Bool.eq_false_iff.mpr c17
            subst c17
            have H1 : (some (([] : List ByteArray), 9)) = some (r1, r2) := by rw [if_neg (show ¬ (false = true) by decide)] at H; exact H
            clear H
            have H := H1
            clear H1
            simp only [Option.some.injEq, Prod.mk.injEq] at H
            obtain ⟨rfl, rfl⟩ := H
            have p155 : 0 ≤ (x6_1 : Int) := of_decide_eq_true as_
            have q155 : x6_1 < (t152.length : Int) := of_decide_eq_true as_
            obtain ⟨ad155, e155, hx155_0⟩ := Kd.at_int (Kd.R_reads' HO_4.out).2.2 x6_1 p155 q155
            cases e155
            replace p155 := eq_true p155
            replace q155 := eq_true q155
            have p156 : 0 ≤ ((ji11) : Int) := of_decide_eq_true as_
            have q156 : (ji11) < (t152.length : Int) := of_decide_eq_true as_
            obtain ⟨ad156, e156, hx156_0⟩ := Kd.at_int (Kd.R_reads' HO_4.out).2.2 (ji11) p156 q156
            obtain rfl : ad155 = ad156 := (by injection e156)
            replace p156 := eq_true p156
            replace q156 := eq_true q156
            go_wp2_with (first | (go_at_call 38; (with_reducible refine (calamusref13_Right.calls k1 (a0.extract ((rd t152 x6_1) : Int).toNat ((rd t152 (ji11)) : Int).toNat) false _ A16.out).mono ?_); rintro e w21 ⟨rfl, hb⟩; replace HO_4 := Aside0.mk (Kd.R_below (rw_ HO_4.out) hb); replace HO_5 := Aside0.mk (Kd.R_below (rw_ HO_5.out) hb); replace HB := bs_ HB hb; (try clear hb); (try clear hb2); (try clear hk); (try clear hi)))
            repeat (go_quiet (first | (go_at_call 38; (with_reducible refine (calamusref13_Right.calls k1 (a0.extract ((rd t152 x6_1) : Int).toNat ((rd t152 (ji11)) : Int).toNat) false _ A16.out).mono ?_); rintro e w21 ⟨rfl, hb⟩; replace HO_4 := Aside0.mk (Kd.R_below (rw_ HO_4.out) hb); replace HO_5 := Aside0.mk (Kd.R_below (rw_ HO_5.out) hb); replace HB := bs_ HB hb; (try clear hb); (try clear hb2); (try clear hk); (try clear hi))); try go_wp2_with (first | (go_at_call 38; (with_reducible refine (calamusref13_Right.calls k1 (a0.extract ((rd t152 x6_1) : Int).toNat ((rd t152 (ji11)) : Int).toNat) false _ A16.out).mono ?_); rintro e w21 ⟨rfl, hb⟩; replace HO_4 := Aside0.mk (Kd.R_below (rw_ HO_4.out) hb); replace HO_5 := Aside0.mk (Kd.R_below (rw_ HO_5.out) hb); replace HB := bs_ HB hb; (try clear hb); (try clear hb2); (try clear hk); (try clear hi))))
            go_ret2
            exact ⟨_, by first | rfl | (simp [errW_none, errW_some] <;> rfl) | (simp only [← hji11]; first | rfl | (simp [errW_none, errW_some] <;> rfl)) | (simp [*, errW_none, errW_some] <;> rfl), by first | exact Kd.R_nil _ _ _ _ _ | exact Kd.N_nil _ _ _ _ _ | exact Kd.V_nil _ _ _ _ _ | exact Kd.Q_nil _ _ _ _ _ | exact Kd.S_nil _ _ _ _ _, hb_ HB⟩
          ·rw [if_neg c15] at H
           exact absurd H (by simp)
         ·rw [if_neg c14] at H
          exact absurd H (by simp)
        ·rw [if_neg c13] at H
         exact absurd H (by simp)
       ·rw [if_neg c12] at H
        exact absurd H (by simp)
      ·rw [if_neg c10] at H
       exact absurd H (by simp)
     ·rw [if_neg c9] at H
      exact absurd H (by simp)
    ·rw [if_neg c8] at H
     have c8b0 : decide ((wrap64 (x6_1 + 1)) < (t152.length : Int)) = false := decide_eq_false c8
     clear c8
     simp only [Option.some.injEq, Prod.mk.injEq] at H
     obtain ⟨rfl, rfl⟩ := H
     go_wp2
     repeat (go_quiet (fail); try go_wp2)
     go_ret2
     exact ⟨_, er_, by (with_reducible repeat (first | apply Kd.R_alloc | apply Kd.R_drewN | apply Kd.R_drew)); exact HO_5.out, hb_ HB⟩

/-! ### calamusref13_Text: function 47 -/
def calamusref13_Text.l0 : Nat → List ByteArray → Int → ByteArray → Int → Option (ByteArray × Int)
 | 0, _, _, _, _ => none
 | k + 1, x4, x5, x6, x7 => if x7 < (x4.length : Int) then (if 0 ≤ x7 then ((calamusref13_Name.f k (rdOf ByteArray.empty x4 x7)).bind fun t166 => (if x6.size + t166.size ≤ 9223372036854775807 then (calamusref13_Text.l0 k x4 x5 (x6 ++ t166) (wrap64 (x7 + 1))) else (none))) else (none)) else (some (x6, x5))
def calamusref13_Text.f (k : Nat) (a0 : ByteArray) : Option (ByteArray × Int) := (calamusref13_Split.f k a0).bind fun bt161 => (calamusref13_Text.l0 k bt161.1 bt161.2 (⟨#[]⟩ : ByteArray) 0)
theorem calamusref13_Text.mono_l : ∀ k, (∀ y0 y1 y2 y3, LeO (calamusref13_Text.l0 k y0 y1 y2 y3) (calamusref13_Text.l0 (k + 1) y0 y1 y2 y3))
 | 0 => fun _ _ _ _ r h => by simp [calamusref13_Text.l0] at h
 | k + 1 => by
  have ih0 := calamusref13_Text.mono_l k
  ·intro y0 y1 y2 y3
   unfold calamusref13_Text.l0
   repeat' first
   | (with_reducible exact ih0 _ _ _ _)
   | (with_reducible exact calamusref13_Name.mono _ _)
   | (with_reducible exact calamusref13_Split.mono _ _)
   | (with_reducible exact LeO.refl _)
   | (with_reducible exact LeO.none _)
   | (with_reducible refine LeO.ite ?_ ?_)
   | (with_reducible refine LeO.bind ?_ (fun _ => ?_))
   | exact ih0 _ _ _ _
   | exact calamusref13_Name.mono _ _
   | exact calamusref13_Split.mono _ _
   | exact LeO.none _
   | refine LeO.ite ?_ ?_
   | refine LeO.bind ?_ (fun _ => ?_)
theorem calamusref13_Text.mono : ∀ a0 k, LeO (calamusref13_Text.f k a0) (calamusref13_Text.f (k + 1) a0) := by
 intro a0 k
 have ih0 := calamusref13_Text.mono_l k
 unfold calamusref13_Text.f
 repeat' first
   | (with_reducible exact ih0 _ _ _ _)
   | (with_reducible exact calamusref13_Name.mono _ _)
   | (with_reducible exact calamusref13_Split.mono _ _)
   | (with_reducible exact LeO.refl _)
   | (with_reducible exact LeO.none _)
   | (with_reducible refine LeO.ite ?_ ?_)
   | (with_reducible refine LeO.bind ?_ (fun _ => ?_))
   | exact ih0 _ _ _ _
   | exact calamusref13_Name.mono _ _
   | exact calamusref13_Split.mono _ _
   | exact LeO.none _
   | refine LeO.ite ?_ ?_
   | refine LeO.bind ?_ (fun _ => ?_)
set_option maxHeartbeats 8000000 in
set_option maxRecDepth 100000 in
theorem calamusref13_Text.calls (k : Nat) (a0 : ByteArray) (r1 : ByteArray) (r2 : Int) (w : World) (h : calamusref13_Text.f k a0 = some (r1, r2)) :
  Calls Try.prog 47 #[.string a0] w fun e w' => e = .returned (.tuple #[.string r1, .int .i64 r2]) ∧ Below w.heap.size w w' := by
 have HB := Aside0.mk (Below.refl w.heap.size w)
 have H : ((calamusref13_Split.f k a0).bind fun bt161 => (calamusref13_Text.l0 k bt161.1 bt161.2 (⟨#[]⟩ : ByteArray) 0)) = some (r1, r2) := h
 clear h
 replace H := Option.bind_eq_some_iff.mp H
 obtain ⟨⟨t161, t162⟩, A20, H⟩ := H
 replace H : (calamusref13_Text.l0 k t161 t162 (⟨#[]⟩ : ByteArray) 0) = some (r1, r2) := H
 have A2 := Aside0.mk A20
 clear A20
 have H' := Aside0.mk H
 clear H
 go_enter Try.func47, Try.ntmps47
 go_wp2_with (first | ((with_reducible refine gate_callee (f := 46) rfl ?_); refine ge_ (some 10) rfl rfl Try.func46 (by kernel_rfl) rfl #[.string a0] rfl (h := ?_); (with_reducible refine (calamusref13_Split.calls k a0 t161 t162 _ A2.out).mono ?_); rintro e w3 ⟨v163, rfl, ho0, hb⟩; refine ⟨_, rfl, ?_⟩; have HO164 := Aside0.mk (Kd.R_lower ho0 (below_size (hb_ HB))); replace HB := bs_ HB hb; (try clear hb); (try clear hb2); (try clear hk); (try clear hi); (try clear ho0)))
 go_loopg [6, 7] k (fun kq v6 v7 w' => ∃ (x6_1 : ByteArray) (x7_1 : Int), v6 = .string x6_1 ∧ v7 = .int .i64 x7_1 ∧ Aside0 (calamusref13_Text.l0 kq t161 t162 x6_1 x7_1 = some (r1, r2)) ∧ Aside0 (kq ≤ k) ∧ Aside0 (Kd.R Kd.string 9 w' w.heap.size (fun _ => True) v163 t161) ∧ Aside0 (Below w.heap.size w w'))
 case atStart => exact ⟨((⟨#[]⟩ : ByteArray)), (0), es_, es_, H', ⟨Nat.le_refl _⟩, ⟨rw_ HO164.out⟩, ⟨hb_ HB⟩⟩
 case round =>
  clear H'
  obtain ⟨x6_1, x7_1, rfl, rfl, HA, HK1, HO_4, HB⟩ := hrel
  cases gk with
  | zero => exact absurd HA.out (by simp [calamusref13_Text.l0])
  | succ k1 =>
   have H := HA.out
   clear HA
   simp only [calamusref13_Text.l0] at H
   by_cases c4 : x7_1 < (t161.length : Int)
   ·rw [if_pos c4] at H
    have c4b0 : decide (x7_1 < (t161.length : Int)) = true := decide_eq_true c4
    clear c4
    by_cases c5 : 0 ≤ x7_1
    ·rw [if_pos c5] at H
     have c5b0 : decide (0 ≤ x7_1) = true := decide_eq_true c5
     clear c5
     replace H := Option.bind_eq_some_iff.mp H
     obtain ⟨t166, A60, H⟩ := H
     replace H : (if x6_1.size + t166.size ≤ 9223372036854775807 then (calamusref13_Text.l0 k1 t161 t162 (x6_1 ++ t166) (wrap64 (x7_1 + 1))) else (none)) = some (r1, r2) := H
     have A6 := Aside0.mk A60
     clear A60
     by_cases c7 : x6_1.size + t166.size ≤ 9223372036854775807
     ·rw [if_pos c7] at H
      have c7b0 := eq_true c7
      try (have c7b0x := c7b0; simp only [ByteArray.size_extract, Nat.min_self] at c7b0x)
      have c7b1 : decide (x6_1.size + t166.size ≤ 9223372036854775807) = true := decide_eq_true c7
      try have c7b2 : (9223372036854775807 < x6_1.size + t166.size) = False := eq_false (Nat.not_lt.2 c7)
      have H' := Aside0.mk H
      clear H
      obtain ⟨Ao8, co8, eo8⟩ := Kd.R_slice HO_4.out
      subst eo8
      have p165 : 0 ≤ (x7_1 : Int) := of_decide_eq_true as_
      have q165 : x7_1 < (t161.length : Int) := of_decide_eq_true as_
      obtain ⟨ad165, e165, hx165_0⟩ := Kd.at_string (Kd.R_reads' HO_4.out).2.2 x7_1 p165 q165
      cases e165
      replace p165 := eq_true p165
      replace q165 := eq_true q165
      go_wp2_with (first | ((with_reducible refine gate_callee (f := 42) rfl ?_); refine ge_ (some 24) rfl rfl Try.func42 (by kernel_rfl) rfl #[.string (rdOf ByteArray.empty t161 x7_1)] rfl (h := ?_); (with_reducible refine (calamusref13_Name.calls k1 (rdOf ByteArray.empty t161 x7_1) t166 _ A6.out).mono ?_); rintro e w9 ⟨rfl, hb⟩; refine ⟨_, rfl, ?_⟩; replace HO_4 := Aside0.mk (Kd.R_below (rw_ HO_4.out) hb); replace HB := bs_ HB hb; (try clear hb); (try clear hb2); (try clear hk); (try clear hi)))
      go_roundg k1
      case measure => have := HK1.out; omega
      case rel => exact ⟨(x6_1 ++ t166), (wrap64 (x7_1 + 1)), es_, es_, H', ⟨by have := HK1.out; omega⟩, ⟨rw_ HO_4.out⟩, ⟨hb_ HB⟩⟩
     ·rw [if_neg c7] at H
      exact absurd H (by simp)
    ·rw [if_neg c5] at H
     exact absurd H (by simp)
   ·rw [if_neg c4] at H
    have c4b0 : decide (x7_1 < (t161.length : Int)) = false := decide_eq_false c4
    clear c4
    simp only [Option.some.injEq, Prod.mk.injEq] at H
    obtain ⟨rfl, rfl⟩ := H
    obtain ⟨Ao10, co10, eo10⟩ := Kd.R_slice HO_4.out
    subst eo10
    go_wp2
    go_ret2
    exact ⟨er_, hb_ HB⟩

/-! ### utf_Place: function 115 -/
def utf_Place.f (k : Nat) (a0 : ByteArray) (a1 : Int) : Option (Bool) := if a1 ≥ 0 then (if a1 ≤ (a0.size : Int) then (if a1 = (a0.size : Int) then ((utf_Valid.f k a0).bind fun t167 => (some t167)) else (if 0 ≤ a1 then (if a1 < (a0.size : Int) then ((utf_inner.f (bt a0 a1)).bind fun t168 => (if t168 = true then (some false) else ((utf_Valid.f k a0).bind fun t169 => (some t169)))) else (none)) else (none))) else (some false)) else (some false)
theorem utf_Place.mono : ∀ a0 a1 k, LeO (utf_Place.f k a0 a1) (utf_Place.f (k + 1) a0 a1) := by
 intro a0 a1 k
 unfold utf_Place.f
 repeat' first
   | (with_reducible exact utf_Valid.mono _ _)
   | (with_reducible exact LeO.refl _)
   | (with_reducible exact LeO.none _)
   | (with_reducible refine LeO.ite ?_ ?_)
   | (with_reducible refine LeO.bind ?_ (fun _ => ?_))
   | exact utf_Valid.mono _ _
   | exact LeO.none _
   | refine LeO.ite ?_ ?_
   | refine LeO.bind ?_ (fun _ => ?_)
set_option maxHeartbeats 8000000 in
set_option maxRecDepth 100000 in
theorem utf_Place.calls (k : Nat) (a0 : ByteArray) (a1 : Int) (r : Bool) (w : World) (h : utf_Place.f k a0 a1 = some r) :
  Calls Try.prog 115 #[.string a0, .int .i64 a1] w fun e w' => e = .returned (.bool r) ∧ Below w.heap.size w w' := by
 have HB := Aside0.mk (Below.refl w.heap.size w)
 have H : (if a1 ≥ 0 then (if a1 ≤ (a0.size : Int) then (if a1 = (a0.size : Int) then ((utf_Valid.f k a0).bind fun t167 => (some t167)) else (if 0 ≤ a1 then (if a1 < (a0.size : Int) then ((utf_inner.f (bt a0 a1)).bind fun t168 => (if t168 = true then (some false) else ((utf_Valid.f k a0).bind fun t169 => (some t169)))) else (none)) else (none))) else (some false)) else (some false)) = some r := h
 clear h
 by_cases c3 : a1 ≥ 0
 ·rw [if_pos c3] at H
  have c3b0 : decide (0 ≤ a1) = true := decide_eq_true c3
  clear c3
  by_cases c4 : a1 ≤ (a0.size : Int)
  ·rw [if_pos c4] at H
   have c4b0 : decide (a1 ≤ (a0.size : Int)) = true := decide_eq_true c4
   clear c4
   by_cases c5 : a1 = (a0.size : Int)
   ·rw [if_pos c5] at H
    have c5b0 : (a1 == (a0.size : Int)) = true := beq_iff_eq.mpr c5
    have c5b1 : (a1 != (a0.size : Int)) = false := bne_eq_false_iff_eq.mpr c5
    clear c5
    replace H := Option.bind_eq_some_iff.mp H
    obtain ⟨t167, A60, H⟩ := H
    replace H : (some t167) = some r := H
    have A6 := Aside0.mk A60
    clear A60
    obtain rfl := Option.some.inj H
    go_enter Try.func115, Try.ntmps115
    go_wp2_with (first | (go_at_call 74; (with_reducible refine (utf_Valid.calls k a0 t167 _ A6.out).mono ?_); rintro e w7 ⟨rfl, hb⟩; replace HB := bs_ HB hb; (try clear hb); (try clear hb2); (try clear hk); (try clear hi)))
    go_ret
    exact ⟨er_, hb_ HB⟩
   ·rw [if_neg c5] at H
    have c5b0 : (a1 == (a0.size : Int)) = false := beq_eq_false_iff_ne.mpr c5
    have c5b1 : (a1 != (a0.size : Int)) = true := bne_iff_ne.mpr c5
    by_cases c8 : 0 ≤ a1
    ·rw [if_pos c8] at H
     have c8b0 : decide (0 ≤ a1) = true := decide_eq_true c8
     clear c8
     by_cases c9 : a1 < (a0.size : Int)
     ·rw [if_pos c9] at H
      have c9b0 : decide (a1 < (a0.size : Int)) = true := decide_eq_true c9
      clear c9
      replace H := Option.bind_eq_some_iff.mp H
      obtain ⟨t168, A110, H⟩ := H
      replace H : (if t168 = true then (some false) else ((utf_Valid.f k a0).bind fun t169 => (some t169))) = some r := H
      have A11 := Aside0.mk A110
      clear A110
      by_cases c12 : t168 = true
      ·subst c12
       have H1 : (some false) = some r := by rw [if_pos rfl] at H; exact H
       clear H
       have H := H1
       clear H1
       obtain rfl := Option.some.inj H
       have p10 : 0 ≤ (a1 : Int) := of_decide_eq_true as_
       have q10 : a1 < (a0.size : Int) := of_decide_eq_true as_
       have hx10 := bt_at a0 a1
       replace p10 := eq_true p10
       replace q10 := eq_true q10
       go_enter Try.func115, Try.ntmps115
       go_wp2_with (first | (go_at_call 101; (with_reducible refine (utf_inner.calls (bt a0 a1) true _ A11.out).mono ?_); rintro e w' ⟨rfl, ⟨nd, rfl⟩⟩))
       go_ret
       exact ⟨er_, hb_ HB⟩
      ·replace c12 := Bool.eq_false_iff.mpr c12
       subst c12
       have H1 : ((utf_Valid.f k a0).bind fun t169 => (some t169)) = some r := by rw [if_neg (show ¬ (false = true) by decide)] at H; exact H
       clear H
       have H := H1
       clear H1
       replace H := Option.bind_eq_some_iff.mp H
       obtain ⟨t169, A130, H⟩ := H
       replace H : (some t169) = some r := H
       have A13 := Aside0.mk A130
       clear A130
       obtain rfl := Option.some.inj H
       have p10 : 0 ≤ (a1 : Int) := of_decide_eq_true as_
       have q10 : a1 < (a0.size : Int) := of_decide_eq_true as_
       have hx10 := bt_at a0 a1
       replace p10 := eq_true p10
       replace q10 := eq_true q10
       go_enter Try.func115, Try.ntmps115
       go_wp2_with (first | (go_at_call 101; (with_reducible refine (utf_inner.calls (bt a0 a1) false _ A11.out).mono ?_); rintro e w' ⟨rfl, ⟨nd, rfl⟩⟩) | (go_at_call 74; (with_reducible refine (utf_Valid.calls k a0 t169 _ A13.out).mono ?_); rintro e w14 ⟨rfl, hb⟩; replace HB := bs_ HB hb; (try clear hb); (try clear hb2); (try clear hk); (try clear hi)))
       go_ret
       exact ⟨er_, hb_ HB⟩
     ·rw [if_neg c9] at H
      exact absurd H (by simp)
    ·rw [if_neg c8] at H
     exact absurd H (by simp)
  ·rw [if_neg c4] at H
   have c4b0 : decide (a1 ≤ (a0.size : Int)) = false := decide_eq_false c4
   clear c4
   obtain rfl := Option.some.inj H
   go_enter Try.func115, Try.ntmps115
   go_wp2
   go_ret
   exact ⟨er_, hb_ HB⟩
 ·rw [if_neg c3] at H
  have c3b0 : decide (0 ≤ a1) = false := decide_eq_false c3
  clear c3
  obtain rfl := Option.some.inj H
  go_enter Try.func115, Try.ntmps115
  go_wp2
  go_ret
  exact ⟨er_, hb_ HB⟩

/-! ### utf_Next: function 107 -/
def utf_Next.f (k : Nat) (a0 : ByteArray) (a1 : Int) : Option (Int) := (utf_Place.f k a0 a1).bind fun t170 => (if t170 = true then (if a1 = (a0.size : Int) then (some (-1)) else (if 0 ≤ a1 then (if a1 ≤ (a0.size : Int) then ((utf_size.f k (a0.extract (a1 : Int).toNat a0.size)).bind fun t171 => (some (wrap64 (a1 + t171)))) else (none)) else (none))) else (some (-1)))
theorem utf_Next.mono : ∀ a0 a1 k, LeO (utf_Next.f k a0 a1) (utf_Next.f (k + 1) a0 a1) := by
 intro a0 a1 k
 unfold utf_Next.f
 repeat' first
   | (with_reducible exact utf_Place.mono _ _ _)
   | (with_reducible exact utf_size.mono _ _)
   | (with_reducible exact LeO.refl _)
   | (with_reducible exact LeO.none _)
   | (with_reducible refine LeO.ite ?_ ?_)
   | (with_reducible refine LeO.bind ?_ (fun _ => ?_))
   | exact utf_Place.mono _ _ _
   | exact utf_size.mono _ _
   | exact LeO.none _
   | refine LeO.ite ?_ ?_
   | refine LeO.bind ?_ (fun _ => ?_)
set_option maxHeartbeats 8000000 in
set_option maxRecDepth 100000 in
theorem utf_Next.calls (k : Nat) (a0 : ByteArray) (a1 : Int) (r : Int) (w : World) (h : utf_Next.f k a0 a1 = some r) :
  Calls Try.prog 107 #[.string a0, .int .i64 a1] w fun e w' => e = .returned (.int .i64 r) ∧ Below w.heap.size w w' := by
 have HB := Aside0.mk (Below.refl w.heap.size w)
 have H : ((utf_Place.f k a0 a1).bind fun t170 => (if t170 = true then (if a1 = (a0.size : Int) then (some (-1)) else (if 0 ≤ a1 then (if a1 ≤ (a0.size : Int) then ((utf_size.f k (a0.extract (a1 : Int).toNat a0.size)).bind fun t171 => (some (wrap64 (a1 + t171)))) else (none)) else (none))) else (some (-1)))) = some r := h
 clear h
 replace H := Option.bind_eq_some_iff.mp H
 obtain ⟨t170, A30, H⟩ := H
 replace H : (if t170 = true then (if a1 = (a0.size : Int) then (some (-1)) else (if 0 ≤ a1 then (if a1 ≤ (a0.size : Int) then ((utf_size.f k (a0.extract (a1 : Int).toNat a0.size)).bind fun t171 => (some (wrap64 (a1 + t171)))) else (none)) else (none))) else (some (-1))) = some r := H
 have A3 := Aside0.mk A30
 clear A30
 by_cases c4 : t170 = true
 ·subst c4
  have H1 : (if a1 = (a0.size : Int) then (some (-1)) else (if 0 ≤ a1 then (if a1 ≤ (a0.size : Int) then ((utf_size.f k (a0.extract (a1 : Int).toNat a0.size)).bind fun t171 => (some (wrap64 (a1 + t171)))) else (none)) else (none))) = some r := by rw [if_pos rfl] at H; exact H
  clear H
  have H := H1
  clear H1
  by_cases c5 : a1 = (a0.size : Int)
  ·rw [if_pos c5] at H
   have c5b0 : (a1 == (a0.size : Int)) = true := beq_iff_eq.mpr c5
   have c5b1 : (a1 != (a0.size : Int)) = false := bne_eq_false_iff_eq.mpr c5
   clear c5
   obtain rfl := Option.some.inj H
   go_enter Try.func107, Try.ntmps107
   go_wp2_with (first | ((with_reducible refine gate_callee (f := 115) rfl ?_); refine ge_ (some 7) rfl rfl Try.func115 (by kernel_rfl) rfl #[.string a0, .int .i64 a1] rfl (h := ?_); (with_reducible refine (utf_Place.calls k a0 a1 true _ A3.out).mono ?_); rintro e w6 ⟨rfl, hb⟩; refine ⟨_, rfl, ?_⟩; replace HB := bs_ HB hb; (try clear hb); (try clear hb2); (try clear hk); (try clear hi)))
   go_ret
   exact ⟨er_, hb_ HB⟩
  ·rw [if_neg c5] at H
   have c5b0 : (a1 == (a0.size : Int)) = false := beq_eq_false_iff_ne.mpr c5
   have c5b1 : (a1 != (a0.size : Int)) = true := bne_iff_ne.mpr c5
   by_cases c7 : 0 ≤ a1
   ·rw [if_pos c7] at H
    have c7b0 := eq_true c7
    try (have c7b0x := c7b0; simp only [ByteArray.size_extract, Nat.min_self] at c7b0x)
    have c7b1 : decide (0 ≤ a1) = true := decide_eq_true c7
    clear c7
    by_cases c8 : a1 ≤ (a0.size : Int)
    ·rw [if_pos c8] at H
     have c8b0 := eq_true c8
     try (have c8b0x := c8b0; simp only [ByteArray.size_extract, Nat.min_self] at c8b0x)
     have c8b1 : decide (a1 ≤ (a0.size : Int)) = true := decide_eq_true c8
     clear c8
     replace H := Option.bind_eq_some_iff.mp H
     obtain ⟨t171, A90, H⟩ := H
     replace H : (some (wrap64 (a1 + t171))) = some r := H
     have A9 := Aside0.mk A90
     clear A90
     obtain rfl := Option.some.inj H
     go_enter Try.func107, Try.ntmps107
     go_wp2_with (first | ((with_reducible refine gate_callee (f := 115) rfl ?_); refine ge_ (some 7) rfl rfl Try.func115 (by kernel_rfl) rfl #[.string a0, .int .i64 a1] rfl (h := ?_); (with_reducible refine (utf_Place.calls k a0 a1 true _ A3.out).mono ?_); rintro e w10 ⟨rfl, hb⟩; refine ⟨_, rfl, ?_⟩; replace HB := bs_ HB hb; (try clear hb); (try clear hb2); (try clear hk); (try clear hi)) | ((with_reducible refine gate_callee (f := 105) rfl ?_); refine ge_ (some 19) rfl rfl Try.func105 (by kernel_rfl) rfl #[.string (a0.extract (a1 : Int).toNat a0.size)] rfl (h := ?_); (with_reducible refine (utf_size.calls k (a0.extract (a1 : Int).toNat a0.size) t171 _ A9.out).mono ?_); rintro e w11 ⟨rfl, hb⟩; refine ⟨_, rfl, ?_⟩; replace HB := bs_ HB hb; (try clear hb); (try clear hb2); (try clear hk); (try clear hi)))
     go_ret
     exact ⟨er_, hb_ HB⟩
    ·rw [if_neg c8] at H
     exact absurd H (by simp)
   ·rw [if_neg c7] at H
    exact absurd H (by simp)
 ·replace c4 := Bool.eq_false_iff.mpr c4
  subst c4
  have H1 : (some (-1)) = some r := by rw [if_neg (show ¬ (false = true) by decide)] at H; exact H
  clear H
  have H := H1
  clear H1
  obtain rfl := Option.some.inj H
  go_enter Try.func107, Try.ntmps107
  go_wp2_with (first | ((with_reducible refine gate_callee (f := 115) rfl ?_); refine ge_ (some 7) rfl rfl Try.func115 (by kernel_rfl) rfl #[.string a0, .int .i64 a1] rfl (h := ?_); (with_reducible refine (utf_Place.calls k a0 a1 false _ A3.out).mono ?_); rintro e w12 ⟨rfl, hb⟩; refine ⟨_, rfl, ?_⟩; replace HB := bs_ HB hb; (try clear hb); (try clear hb2); (try clear hk); (try clear hi)))
  go_ret
  exact ⟨er_, hb_ HB⟩

/-! ### key_named: function 76, by hand (key.named.lean) -/
section
open Go.Shelf
def shelf_lays103_ren : Go.Shelf.Ren := ⟨fun | 103 => 106 | 210 => 114 | 206 => 122 | n => n, fun | 9 => 9 | 4 => 4 | 24 => 108 | 3 => 3 | n => n, fun | n => n⟩
theorem shelf_lays103 : Go.Proofs.Lays.n103 Try.prog shelf_lays103_ren := {
 mixed := by kernel_rfl
 f103 := Try.func106.trans (congrArg some (by kernel_rfl))
 f206 := Try.func122.trans (congrArg some (by kernel_rfl))
 f210 := Try.func114.trans (congrArg some (by kernel_rfl))
 t3 := Try.underlying3
 a3 := Try.isAgg3
 z3 := Try.sizeOf3
 v3 := Try.zeroValue3
 t4 := Try.underlying4
 a4 := Try.isAgg4
 z4 := Try.sizeOf4
 v4 := Try.zeroValue4
 t9 := Try.underlying9
 a9 := Try.isAgg9
 z9 := Try.sizeOf9
 v9 := Try.zeroValue9
 t24 := Try.underlying108
 a24 := Try.isAgg108
 z24 := Try.sizeOf108
 v24 := Try.zeroValue108 }
open Go.RowKit in
theorem shelf_strings_CutPrefix (s p : ByteArray) (w : World) :
  Calls Try.prog 106 #[.string s, .string p] w fun e w' => e = .returned (.tuple #[.string ⟨(Lib.trimPrefix s.data.toList p.data.toList).toArray⟩, .bool (Lib.hasPrefix s.data.toList p.data.toList)]) ∧ w' = w := Any.strings_CutPrefix shelf_lays103 s p w
open Go.RowKit in

end
def key_named.t (k : Nat) (s : ByteArray) : Option (ByteArray × ByteArray) := (utf_Next.f k s 0).bind fun n => if n < 0 then some (⟨#[]⟩, ⟨#[]⟩) else if 0 < (s.size : Int) then (if bt s 0 = 60 then some (⟨#[]⟩, ⟨#[]⟩) else if n ≤ (s.size : Int) then (key_Sign.f k (s.extract 0 n.toNat)).bind fun b => if b = true then some (s.extract 0 n.toNat, s.extract n.toNat s.size) else some (⟨#[]⟩, ⟨#[]⟩) else none) else none
def key_named.f (k : Nat) (s : ByteArray) : Option (ByteArray × ByteArray) := match nmT.find? (fun p => Lib.hasPrefix s.data.toList p.2.data.toList) with | some p => some (p.1, ⟨(Lib.trimPrefix s.data.toList p.2.data.toList).toArray⟩) | none => key_named.t k s
theorem key_named.mono : ∀ a0 k, LeO (key_named.f k a0) (key_named.f (k + 1) a0) := by
 intro a0 k
 unfold key_named.f
 split
 ·exact LeO.refl _
 ·unfold key_named.t
  refine LeO.bind (utf_Next.mono _ _ _) (fun _ => LeO.ite (LeO.refl _) (LeO.ite (LeO.ite (LeO.refl _) (LeO.ite (LeO.bind (key_Sign.mono _ _) (fun _ => LeO.refl _)) (LeO.refl _))) (LeO.refl _)))
/-- Whichever entry begins the text: it is the one that 'find?' finds. -/
theorem nmd_third : ∀ p ∈ nmT, nmT.find? (fun q => q.2.data.toList.take 3 == p.2.data.toList.take 3) = some p ∧ 3 ≤ p.2.data.toList.length := by decide
theorem nmd_prefix (s p : List UInt8) (h : Lib.hasPrefix s p = true) (h3 : 3 ≤ p.length) : s.take 3 = p.take 3 := by
 obtain ⟨t, rfl⟩ := List.isPrefixOf_iff_prefix.1 h
 rw [List.take_append_of_le_length h3]
theorem nmd_one (s : List UInt8) (p q : ByteArray × ByteArray) (hp : p ∈ nmT) (hq : q ∈ nmT) (h1 : Lib.hasPrefix s p.2.data.toList = true) (h2 : Lib.hasPrefix s q.2.data.toList = true) : p = q := by
 obtain ⟨a1, a2⟩ := nmd_third p hp
 obtain ⟨b1, b2⟩ := nmd_third q hq
 have e : p.2.data.toList.take 3 = q.2.data.toList.take 3 := (nmd_prefix s _ h1 a2).symm.trans (nmd_prefix s _ h2 b2)
 rw [e] at a1
 exact Option.some.inj (a1.symm.trans b1)
theorem nmd_found (s : ByteArray) (p : ByteArray × ByteArray) (hp : p ∈ nmT) (h : Lib.hasPrefix s.data.toList p.2.data.toList = true) : nmT.find? (fun p => Lib.hasPrefix s.data.toList p.2.data.toList) = some p := by
 cases hf : nmT.find? (fun p => Lib.hasPrefix s.data.toList p.2.data.toList) with
 | none => exact absurd h (by have := List.find?_eq_none.1 hf p hp; simpa using this)
 | some q =>
  have h2 := List.find?_some hf
  rw [nmd_one s.data.toList p q hp (List.mem_of_find?_eq_some hf) h (by simpa using h2)]
theorem nmd_entry (e : MapEntry) (he : e ∈ nmE.toList) : ∃ p ∈ nmT, e.key = .string p.1 ∧ e.val = .string p.2 := by
 simp only [nmE, List.mem_cons, List.not_mem_nil, or_false] at he
 rcases he with rfl | rfl | rfl | rfl | rfl | rfl | rfl | rfl <;> exact ⟨(_, _), by simp [nmT], rfl, rfl⟩
theorem nmd_back (p : ByteArray × ByteArray) (hp : p ∈ nmT) : ∃ e ∈ nmE.toList, e.val = .string p.2 := by
 have h : nmT = nmE.toList.map (fun e => ((match e.key with | .string x => x | _ => ⟨#[]⟩), (match e.val with | .string x => x | _ => ⟨#[]⟩))) := by rfl
 rw [h] at hp
 obtain ⟨e, he, rfl⟩ := List.mem_map.1 hp
 obtain ⟨q, _, _, hv⟩ := nmd_entry e he
 exact ⟨e, he, by rw [hv]⟩
theorem nmd_old : ∀ x ∈ nmE.toList, x.born < 8 := by
 intro x hx
 simp only [nmE, List.mem_cons, List.not_mem_nil, or_false] at hx
 rcases hx with rfl | rfl | rfl | rfl | rfl | rfl | rfl | rfl <;> decide
theorem nmd_nodup : (nmE.toList.map (·.born)).Nodup := by decide
theorem nmd_none (s : ByteArray) (seen : Array Nat) (h0 : (leftOf nmE seen).size = 0) (h : ∀ e ∈ nmE.toList, seen.contains e.born = true → ∀ x, e.val = .string x → Lib.hasPrefix s.data.toList x.data.toList = false) : nmT.find? (fun p => Lib.hasPrefix s.data.toList p.2.data.toList) = none := by
 rw [List.find?_eq_none]
 intro p hp
 obtain ⟨e, he, hv⟩ := nmd_back p hp
 rw [h e he (all_seen nmE seen h0 e he) _ hv]
 decide
open ChangeMaps (setBlock) in
/-- The world behind the step, and what is known of it. -/
theorem nmd_step (w wr : World) (s : ByteArray) (r b c0 : Nat) (seen : Array Nat) (hr : wr.heap[r]? = some (.mapIter (some b) 8 seen c0)) (hb : wr.heap[b]? = some (.map nmE 8)) (hc : 8 ≤ c0) (HB : Below w.heap.size w wr) (hrw : w.heap.size ≤ r) :
  ((leftOf nmE seen).size = 0 ∧ (Instr.next (.pointer (some ⟨r, 0, none⟩)) false 0).run Try.prog wr = .ok (.tuple #[.bool false]) wr) ∨
  ∃ (p : ByteArray × ByteArray) (e : MapEntry) (w' : World), p ∈ nmT ∧ e ∈ nmE.toList ∧ e.val = .string p.2 ∧ (Instr.next (.pointer (some ⟨r, 0, none⟩)) false 0).run Try.prog wr = .ok (.tuple #[.bool true, .string p.1, .string p.2]) w' ∧ (Instr.entry (.pointer (some ⟨r, 0, none⟩))).run Try.prog w' = .ok (.tuple #[.string p.1, .string p.2]) w' ∧
   w'.heap[r]? = some (.mapIter (some b) 8 (seen.push e.born) 8) ∧ w'.heap[b]? = some (.map nmE 8) ∧ Below w.heap.size w w' ∧ (leftOf nmE (seen.push e.born)).size < (leftOf nmE seen).size := by
 rcases run_next_at (P := Try.prog) wr 0 r b 8 c0 seen nmE 8 hr hb nmd_old hc with ⟨h0, hrun⟩ | ⟨e, he, w1, hal, hrun⟩
 ·exact Or.inl ⟨h0, hrun⟩
 ·have hm := mem_left he
  obtain ⟨p, hp, hk, hv⟩ := nmd_entry e hm.1
  have hne : r ≠ b := by rintro rfl; rw [hb] at hr; cases hr
  have hlt : r < wr.heap.size := (Array.getElem?_eq_some_iff.1 hr).1
  have hh : w1.heap = wr.heap := by rcases hal with rfl | rfl <;> rfl
  have h1 : (setBlock w1 r (.mapIter (some b) 8 (seen.push e.born) 8)).heap[r]? = some (.mapIter (some b) 8 (seen.push e.born) 8) := by
   show (w1.heap.setIfInBounds r _)[r]? = _
   rw [hh, Array.getElem?_setIfInBounds_self_of_lt hlt]
  have h2 : ∀ i, i ≠ r → (setBlock w1 r (.mapIter (some b) 8 (seen.push e.born) 8)).heap[i]? = wr.heap[i]? := by
   intro i hi
   show (w1.heap.setIfInBounds r _)[i]? = _
   rw [hh, Array.getElem?_setIfInBounds_ne (Ne.symm hi)]
  have h3 : Below w.heap.size w (setBlock w1 r (.mapIter (some b) 8 (seen.push e.born) 8)) := by
   refine ⟨?_, ?_, ?_, ?_, ?_⟩
   ·have := HB.os; rcases hal with rfl | rfl <;> exact this
   ·have := HB.tape; rcases hal with rfl | rfl <;> exact this
   ·have := HB.output; rcases hal with rfl | rfl <;> exact this
   ·show _ ≤ (w1.heap.setIfInBounds r _).size; rw [Array.size_setIfInBounds, hh]; exact HB.size
   ·intro k hk'; rw [h2 k (by omega)]; exact HB.block k hk'
  have h4 := (h2 b (Ne.symm hne)).trans hb
  have hen := run_entry_at (P := Try.prog) _ r b 8 seen nmE 8 e h1 h4 hm.1 nmd_nodup
  rw [hk, hv] at hrun hen
  exact Or.inr ⟨p, e, _, hp, hm.1, hv, hrun, hen, h1, h4, h3, left_shrinks nmE seen e he⟩
set_option maxHeartbeats 4000000 in
set_option maxRecDepth 100000 in
theorem key_named.calls (k : Nat) (a0 : ByteArray) (r1 : ByteArray) (r2 : ByteArray) (w : World) (h : key_named.f k a0 = some (r1, r2)) :
  Calls Try.prog 76 #[.string a0] w fun e w' => e = .returned (.tuple #[.string r1, .string r2]) ∧ Below w.heap.size w w' := by
 have H' := Aside0.mk h
 clear h
 have hm : Try.prog.underlying 109 = some (.map 9 9) := by kernel_rfl
 go_enter Try.func76, Try.ntmps76
 have hRg := run_range_map (P := Try.prog) (w.alloc (.map nmE 8)) 109 9 9 w.heap.size nmE 8 hm (heap_alloc_new w _)
 clear hm
 go_wp2_with ((with_reducible refine gate_callee (f := 70) rfl ?_); refine ge_ (some 9) rfl rfl Try.func70 (by kernel_rfl) rfl #[] rfl (h := ?_); (with_reducible refine (key_names.calls _).mono ?_); rintro e w2 ⟨rfl, rfl⟩; refine ⟨_, rfl, ?_⟩)

 have hbm : (w.alloc (.map nmE 8)).heap[w.heap.size]? = some (.map nmE 8) := heap_alloc_new w _
 have HB := Aside0.mk (below_alloc (below_alloc (Below.refl w.heap.size w) (.map nmE 8)) (.mapIter (some w.heap.size) 8 #[] 8))
 have HI : Aside0 (((w.alloc (.map nmE 8)).alloc (.mapIter (some w.heap.size) 8 #[] 8)).heap[w.heap.size + 1]? = some (.mapIter (some w.heap.size) 8 #[] 8)) := ⟨by have := heap_alloc_new (w.alloc (.map nmE 8)) (.mapIter (some w.heap.size) 8 #[] 8); simpa using this⟩
 have HM := Aside0.mk ((heap_alloc_old (w.alloc (.map nmE 8)) (.mapIter (some w.heap.size) 8 #[] 8) (by simp)).trans hbm)
 clear hbm hRg
 go_loopg [2] 9 (fun kq v2 wr => v2 = .string ⟨#[]⟩ ∧ ∃ (seen : Array Nat) (c0 : Nat), Aside0 (wr.heap[w.heap.size + 1]? = some (.mapIter (some w.heap.size) 8 seen c0)) ∧ Aside0 (8 ≤ c0) ∧ Aside0 ((leftOf nmE seen).size < kq) ∧ Aside0 (kq ≤ 9) ∧ Aside0 (∀ e ∈ nmE.toList, seen.contains e.born = true → ∀ x, e.val = .string x → Lib.hasPrefix a0.data.toList x.data.toList = false) ∧ Aside0 (wr.heap[w.heap.size]? = some (.map nmE 8)) ∧ Aside0 (Below w.heap.size w wr))
 case atStart => exact ⟨rfl, #[], 8, HI, ⟨Nat.le_refl _⟩, ⟨Nat.lt_succ_of_le (by unfold leftOf; exact Array.size_filter_le)⟩, ⟨Nat.le_refl _⟩, ⟨fun e he hs => by simp at hs⟩, HM, HB⟩
 case round =>
  clear HB HI HM
  obtain ⟨rfl, seen, c0, HI, HC, HL, HK, HN, HM, HB⟩ := hrel
  cases gk with
  | zero => exact absurd HL.out (by omega)
  | succ k1 =>
   rcases nmd_step w wr a0 (w.heap.size + 1) w.heap.size c0 seen HI.out HM.out HC.out HB.out (by omega) with ⟨h0, hN⟩ | ⟨p, e, w2, hp, he, hv, hN, hE, hi, hm, hb, hl⟩
   ·have Hn := Aside0.mk (nmd_none a0 seen h0 HN.out)
    have H := H'.out
    unfold key_named.f at H
    rw [Hn.out] at H
    replace H : key_named.t k a0 = some (r1, r2) := H
    clear h0 HN HI HM HC HL HK H' Hn
    unfold key_named.t at H
    obtain ⟨n, A10, H⟩ := Option.bind_eq_some_iff.mp H
    have A1 := Aside0.mk A10
    clear A10
    by_cases c0 : n < 0
    ·rw [if_pos c0] at H
     have c0b : decide (n < 0) = true := decide_eq_true c0
     clear c0
     simp only [Option.some.injEq, Prod.mk.injEq] at H
     obtain ⟨rfl, rfl⟩ := H
     go_wp2_with (first | ((with_reducible refine gate_callee (f := 107) rfl ?_); refine ge_ (some 26) rfl rfl Try.func107 (by kernel_rfl) rfl #[.string a0, .int .i64 0] rfl (h := ?_); (with_reducible refine (utf_Next.calls k a0 0 n _ A1.out).mono ?_); rintro e w5 ⟨rfl, hb⟩; refine ⟨_, rfl, ?_⟩; replace HB := bs_ HB hb; clear hb; skip) | fail)
     go_ret2
     exact ⟨er_, hb_ HB⟩
    ·rw [if_neg c0] at H
     have c0b : decide (n < 0) = false := decide_eq_false c0
     have c0c : (0 ≤ n) = True := eq_true (by omega)
     clear c0
     by_cases c1 : 0 < (a0.size : Int)
     ·rw [if_pos c1] at H
      have c1b : decide (0 < (a0.size : Int)) = true := decide_eq_true c1
      have q7 : (0 < a0.size) = True := eq_true (by omega)
      have hx7 : ∀ h : 0 < a0.size, ((a0[0]'h).toNat : Int) = bt a0 0 := bt_at a0 0
      by_cases c2 : bt a0 0 = 60
      ·rw [if_pos c2] at H
       have c2b : (bt a0 0 == 60) = true := beq_iff_eq.mpr c2
       simp only [Option.some.injEq, Prod.mk.injEq] at H
       obtain ⟨rfl, rfl⟩ := H
       clear c2
       go_wp2_with (first | ((with_reducible refine gate_callee (f := 107) rfl ?_); refine ge_ (some 26) rfl rfl Try.func107 (by kernel_rfl) rfl #[.string a0, .int .i64 0] rfl (h := ?_); (with_reducible refine (utf_Next.calls k a0 0 n _ A1.out).mono ?_); rintro e w5 ⟨rfl, hb⟩; refine ⟨_, rfl, ?_⟩; replace HB := bs_ HB hb; clear hb; skip) | fail)
       go_ret2
       exact ⟨er_, hb_ HB⟩
      ·rw [if_neg c2] at H
       have c2b : (bt a0 0 == 60) = false := beq_eq_false_iff_ne.mpr c2
       clear c2
       by_cases c3 : n ≤ (a0.size : Int)
       ·rw [if_pos c3] at H
        have c3b : (n ≤ (a0.size : Int)) = True := eq_true c3
        obtain ⟨t, A20, H⟩ := Option.bind_eq_some_iff.mp H
        have A2 := Aside0.mk A20
        clear A20 c3
        cases t
        ·simp only [Bool.false_eq_true, if_false, Option.some.injEq, Prod.mk.injEq] at H
         obtain ⟨rfl, rfl⟩ := H
         go_wp2_with (first | ((with_reducible refine gate_callee (f := 107) rfl ?_); refine ge_ (some 26) rfl rfl Try.func107 (by kernel_rfl) rfl #[.string a0, .int .i64 0] rfl (h := ?_); (with_reducible refine (utf_Next.calls k a0 0 n _ A1.out).mono ?_); rintro e w5 ⟨rfl, hb⟩; refine ⟨_, rfl, ?_⟩; replace HB := bs_ HB hb; clear hb; skip) | (go_at_call 39; (with_reducible refine (key_Sign.calls k (a0.extract 0 n.toNat) _ _ A2.out).mono ?_); rintro e w6 ⟨rfl, hb⟩; replace HB := bs_ HB hb; clear hb))
         go_ret2
         exact ⟨er_, hb_ HB⟩
        ·simp only [if_true, Option.some.injEq, Prod.mk.injEq] at H
         obtain ⟨rfl, rfl⟩ := H
         go_wp2_with (first | ((with_reducible refine gate_callee (f := 107) rfl ?_); refine ge_ (some 26) rfl rfl Try.func107 (by kernel_rfl) rfl #[.string a0, .int .i64 0] rfl (h := ?_); (with_reducible refine (utf_Next.calls k a0 0 n _ A1.out).mono ?_); rintro e w5 ⟨rfl, hb⟩; refine ⟨_, rfl, ?_⟩; replace HB := bs_ HB hb; clear hb; skip) | (go_at_call 39; (with_reducible refine (key_Sign.calls k (a0.extract 0 n.toNat) _ _ A2.out).mono ?_); rintro e w6 ⟨rfl, hb⟩; replace HB := bs_ HB hb; clear hb))
         refine start_ (n := 8) (S := fun _ => True) (ds := []) #[false, false, false, false, false, false, false, false] (by kernel_rfl) rfl rfl trivial (fun hHeld => ?_)
         refine pp_ (i := 0) (N := some 41) #[true, false, false, false, false, false, false, false] rfl rfl (by kernel_rfl) (h := ?_)
         refine pp_ (i := 1) (N := some 42) #[true, true, false, false, false, false, false, false] rfl rfl (by kernel_rfl) (h := ?_)
         refine pp_ (i := 3) (N := some 44) #[true, true, false, true, false, false, false, false] rfl rfl (by kernel_rfl) (h := ?_)
         refine pp_ (i := 4) (N := some 45) #[true, true, false, true, true, false, false, false] rfl rfl (by kernel_rfl) (h := ?_)
         refine take_ (i := 2) (N := some 43) (v := ?_) (a' := ?_) #[true, true, true, true, true, false, false, false] rfl rfl (by kernel_rfl) (fun _ _ _ h => h) (Or.inl ⟨by rfl, ?_⟩) hHeld ?_ ?_
         rotate_left
         ·rintro w' _
          go_simp
          with_reducible rfl
         rotate_left
         ·simp only [Act.put, List.setIfInBounds_toArray, List.set_cons_zero, List.set_cons_succ, i64_w, i32_w]
          rfl
         refine take_ (i := 5) (N := some 46) (v := ?_) (a' := ?_) #[true, true, true, true, true, true, false, false] rfl rfl (by kernel_rfl) (fun _ _ _ h => h) (Or.inl ⟨by rfl, ?_⟩) hHeld ?_ ?_
         rotate_left
         ·rintro w' _
          go_simp
          with_reducible rfl
         rotate_left
         ·simp only [Act.put, List.setIfInBounds_toArray, List.set_cons_zero, List.set_cons_succ, i64_w, i32_w]
          rfl
         refine pp_ (i := 6) (N := some 2) #[true, true, true, true, true, true, true, false] rfl rfl (by kernel_rfl) (h := ?_)
         refine pp_ (i := 7) (N := some 3) #[true, true, true, true, true, true, true, true] rfl rfl (by kernel_rfl) (h := ?_)
         refine done_ (by kernel_rfl) ?_
         try go_wp2
         go_ret2
         exact ⟨er_, hb_ HB⟩
       ·rw [if_neg c3] at H
        exact absurd H (by simp)
     ·rw [if_neg c1] at H
      exact absurd H (by simp)
   ·by_cases hpx : Lib.hasPrefix a0.data.toList p.2.data.toList = true
    ·have H := H'.out
     unfold key_named.f at H
     rw [nmd_found a0 p hp hpx] at H
     simp only [Option.some.injEq, Prod.mk.injEq] at H
     obtain ⟨rfl, rfl⟩ := H
     have HB2 := Aside0.mk hb
     clear hi hm hb hl hv he hp HN HI HM HC HL HK HB
     go_wp2_with ((with_reducible refine gate_callee (f := 106) rfl ?_); refine ge_ (some 19) rfl rfl Try.func106 (by kernel_rfl) rfl #[.string a0, .string p.2] rfl (h := ?_); (with_reducible refine (shelf_strings_CutPrefix a0 p.2 _).mono ?_); rintro e w5 ⟨rfl, rfl⟩; refine ⟨_, rfl, ?_⟩)
     go_ret2
     exact ⟨er_, hb_ HB2⟩
    ·replace hpx := Bool.eq_false_iff.mpr hpx
     have HN2 := Aside0.mk (show ∀ e' ∈ nmE.toList, (seen.push e.born).contains e'.born = true → ∀ x, e'.val = .string x → Lib.hasPrefix a0.data.toList x.data.toList = false from fun e' he' hs x hx => by
      rw [contains_push] at hs
      cases hc : seen.contains e'.born with
      | true => exact HN.out e' he' hc x hx
      | false =>
       rw [hc, Bool.false_or, beq_iff_eq] at hs
       rw [born_inj nmd_nodup he' he hs, hv] at hx
       cases hx
       exact hpx)
     have HI2 := Aside0.mk hi
     have HM2 := Aside0.mk hm
     have HB2 := Aside0.mk hb
     have HL2 := Aside0.mk (show (leftOf nmE (seen.push e.born)).size < k1 by have := HL.out; omega)
     have HK2 := Aside0.mk (show k1 ≤ 9 by have := HK.out; omega)
     clear hi hm hb hl hv he hp HN HI HM HC HL HB
     go_wp2_with ((with_reducible refine gate_callee (f := 106) rfl ?_); refine ge_ (some 19) rfl rfl Try.func106 (by kernel_rfl) rfl #[.string a0, .string p.2] rfl (h := ?_); (with_reducible refine (shelf_strings_CutPrefix a0 p.2 _).mono ?_); rintro e w5 ⟨rfl, rfl⟩; refine ⟨_, rfl, ?_⟩)
     go_roundg k1
     case measure => omega
     case rel => exact ⟨rfl, _, _, HI2, ⟨Nat.le_refl _⟩, HL2, HK2, HN2, HM2, HB2⟩

end Go.Proofs.Ytealbonfaebikaa.PKeyTexts
