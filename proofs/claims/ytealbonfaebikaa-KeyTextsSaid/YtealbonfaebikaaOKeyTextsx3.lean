/- Of the law calamus/calamuslaw13.KeyTexts: each function as a plain Lean function, with a proof that the call comes to it; the row. By wip/tpl/own_print.py. Conditions: none but the row's own. -/
import Derived.Test.YtealbonfaebikaaOKeyTextsx0
import Derived.Test.YtealbonfaebikaaOKeyTextsx2
namespace Go.Proofs.Ytealbonfaebikaa.PKeyTexts
open Go.RowKit Go.Proofs.YtealbonfaebikaaW.PrintWords Go.Proofs.YtealbonfaebikaaW.PrintLast Go.Proofs.YtealbonfaebikaaW.PrintMore
attribute [local go_sem] max2_int min2_int max_two min_two max_three min_three max_four min_four   -- for this text's walks alone
set_option linter.unusedVariables false
set_option linter.unusedSimpArgs false

/-! ### calamusref03_number: function 103 -/
mutual
def calamusref03_number.l0 : Nat → ByteArray → Int → Int → Option (Int)
 | 0, _, _, _ => none
 | k + 1, x0, x3, x4 => if x4 < (x0.size : Int) then (if 0 ≤ x4 then (if x4 = 0 then ((some (([0, 0, 192, 224, 240] : List Int) : List Int)).bind fun y133 => (if 0 ≤ (x0.size : Int) then (if (x0.size : Int) < (y133.length : Int) then (if (wrap64 ((wrap64 (bt x0 x4)) - (rd y133 (x0.size : Int)))) < 0 then (some (-1)) else (calamusref03_number.l0 k x0 (wrap64 ((wrap64 (64 * x3)) + (wrap64 ((wrap64 (bt x0 x4)) - (rd y133 (x0.size : Int)))))) (wrap64 (x4 + 1)))) else (none)) else (none))) else (if (wrap64 ((wrap64 (bt x0 x4)) - 128)) < 0 then (calamusref03_number.j1 k x0 x3 x4 (wrap64 ((wrap64 (bt x0 x4)) - 128)) true) else (calamusref03_number.j1 k x0 x3 x4 (wrap64 ((wrap64 (bt x0 x4)) - 128)) (decide ((wrap64 ((wrap64 (bt x0 x4)) - 128)) > 63))))) else (none)) else (some x3)
def calamusref03_number.j1 : Nat → ByteArray → Int → Int → Int → Bool → Option (Int)
 | 0, _, _, _, _, _ => none
 | k + 1, x0, x3, x4, x5, x38 => if x38 = true then (some (-1)) else (if x5 < 0 then (some (-1)) else (calamusref03_number.l0 k x0 (wrap64 ((wrap64 (64 * x3)) + x5)) (wrap64 (x4 + 1))))
end
def calamusref03_number.f (k : Nat) (a0 : ByteArray) : Option (Int) := if (a0.size : Int) = 1 then (if 0 < (a0.size : Int) then (some (wrap64 (bt a0 0))) else (none)) else (calamusref03_number.l0 k a0 0 0)
theorem calamusref03_number.mono_l : ∀ k, (∀ y0 y1 y2, LeO (calamusref03_number.l0 k y0 y1 y2) (calamusref03_number.l0 (k + 1) y0 y1 y2)) ∧ (∀ y0 y1 y2 y3 y4, LeO (calamusref03_number.j1 k y0 y1 y2 y3 y4) (calamusref03_number.j1 (k + 1) y0 y1 y2 y3 y4))
 | 0 => ⟨fun _ _ _ r h => by simp [calamusref03_number.l0] at h, fun _ _ _ _ _ r h => by simp [calamusref03_number.j1] at h⟩
 | k + 1 => by
  obtain ⟨ih0, ih1⟩ := calamusref03_number.mono_l k
  refine ⟨?_, ?_⟩
  ·intro y0 y1 y2
   unfold calamusref03_number.l0
   repeat' first
   | (with_reducible exact ih0 _ _ _)
   | (with_reducible exact ih1 _ _ _ _ _)
   | (with_reducible exact LeO.refl _)
   | (with_reducible exact LeO.none _)
   | (with_reducible refine LeO.ite ?_ ?_)
   | (with_reducible refine LeO.bind ?_ (fun _ => ?_))
   | exact ih0 _ _ _
   | exact ih1 _ _ _ _ _
   | exact LeO.none _
   | refine LeO.ite ?_ ?_
   | refine LeO.bind ?_ (fun _ => ?_)
  ·intro y0 y1 y2 y3 y4
   unfold calamusref03_number.j1
   repeat' first
   | (with_reducible exact ih0 _ _ _)
   | (with_reducible exact ih1 _ _ _ _ _)
   | (with_reducible exact LeO.refl _)
   | (with_reducible exact LeO.none _)
   | (with_reducible refine LeO.ite ?_ ?_)
   | (with_reducible refine LeO.bind ?_ (fun _ => ?_))
   | exact ih0 _ _ _
   | exact ih1 _ _ _ _ _
   | exact LeO.none _
   | refine LeO.ite ?_ ?_
   | refine LeO.bind ?_ (fun _ => ?_)
theorem calamusref03_number.mono : ∀ a0 k, LeO (calamusref03_number.f k a0) (calamusref03_number.f (k + 1) a0) := by
 intro a0 k
 obtain ⟨ih0, ih1⟩ := calamusref03_number.mono_l k
 unfold calamusref03_number.f
 repeat' first
   | (with_reducible exact ih0 _ _ _)
   | (with_reducible exact ih1 _ _ _ _ _)
   | (with_reducible exact LeO.refl _)
   | (with_reducible exact LeO.none _)
   | (with_reducible refine LeO.ite ?_ ?_)
   | (with_reducible refine LeO.bind ?_ (fun _ => ?_))
   | exact ih0 _ _ _
   | exact ih1 _ _ _ _ _
   | exact LeO.none _
   | refine LeO.ite ?_ ?_
   | refine LeO.bind ?_ (fun _ => ?_)
set_option maxHeartbeats 8000000 in
set_option maxRecDepth 100000 in
theorem calamusref03_number.calls (k : Nat) (a0 : ByteArray) (r : Int) (w : World) (h : calamusref03_number.f k a0 = some r) :
  Calls Try.prog 103 #[.string a0] w fun e w' => e = .returned (.int .i64 r) ∧ Below w.heap.size w w' := by
 have HB := Aside0.mk (Below.refl w.heap.size w)
 have H : (if (a0.size : Int) = 1 then (if 0 < (a0.size : Int) then (some (wrap64 (bt a0 0))) else (none)) else (calamusref03_number.l0 k a0 0 0)) = some r := h
 clear h
 by_cases c2 : (a0.size : Int) = 1
 ·rw [if_pos c2] at H
  have c2b0 : ((a0.size : Int) == 1) = true := beq_iff_eq.mpr c2
  have c2b1 : ((a0.size : Int) != 1) = false := bne_eq_false_iff_eq.mpr c2
  clear c2
  by_cases c3 : 0 < (a0.size : Int)
  ·rw [if_pos c3] at H
   have c3b0 : decide (0 < (a0.size : Int)) = true := decide_eq_true c3
   have c3b1 : decide (0 < a0.size) = true := decide_eq_true (by omega)
   clear c3
   obtain rfl := Option.some.inj H
   have p4 : 0 ≤ (0 : Int) := (by omega)
   have q4 : 0 < a0.size := (by have : (0 : Int) < (a0.size : Int) := of_decide_eq_true as_; omega)
   have hx4 : ∀ h : 0 < a0.size, ((a0[0]'h).toNat : Int) = bt a0 0 := bt_at a0 0
   clear p4
   have qi4 : (0 < (a0.size : Int)) = True := eq_true (of_decide_eq_true as_)
   replace q4 := eq_true q4
   go_enter Try.func103, Try.ntmps103
   go_wp2
   go_ret
   exact ⟨er_, hb_ HB⟩
  ·rw [if_neg c3] at H
   exact absurd H (by simp)
 ·rw [if_neg c2] at H
  have c2b0 : ((a0.size : Int) == 1) = false := beq_eq_false_iff_ne.mpr c2
  have c2b1 : ((a0.size : Int) != 1) = true := bne_iff_ne.mpr c2
  have H' := Aside0.mk H
  clear H
  go_enter Try.func103, Try.ntmps103
  go_wp2
  go_loopg [3, 4] k (fun kq v3 v4 w' => ∃ (x3_1 : Int) (x4_1 : Int), v3 = .int .i64 x3_1 ∧ v4 = .int .i64 x4_1 ∧ Aside0 (calamusref03_number.l0 kq a0 x3_1 x4_1 = some r) ∧ Aside0 (kq ≤ k) ∧ Aside0 (Below w.heap.size w w'))
  case atStart => exact ⟨(0), (0), es_, es_, H', ⟨Nat.le_refl _⟩, ⟨hb_ HB⟩⟩
  case round =>
   clear H'
   try clear c2
   try clear c2b0
   try clear c2b1
   obtain ⟨x3_1, x4_1, rfl, rfl, HA, HK1, HB⟩ := hrel
   cases gk with
   | zero => exact absurd HA.out (by simp [calamusref03_number.l0])
   | succ k1 =>
    have H := HA.out
    clear HA
    simp only [calamusref03_number.l0] at H
    by_cases c5 : x4_1 < (a0.size : Int)
    ·rw [if_pos c5] at H
     have c5b0 : decide (x4_1 < (a0.size : Int)) = true := decide_eq_true c5
     clear c5
     by_cases c6 : 0 ≤ x4_1
     ·rw [if_pos c6] at H
      have c6b0 : decide (0 ≤ x4_1) = true := decide_eq_true c6
      clear c6
      by_cases c8 : x4_1 = 0
      ·rw [if_pos c8] at H
       have c8b0 : (x4_1 == 0) = true := beq_iff_eq.mpr c8
       have c8b1 : (x4_1 != 0) = false := bne_eq_false_iff_eq.mpr c8
       clear c8
       obtain ⟨y133, hy133⟩ : ∃ y_ : List Int, y_ = (([0, 0, 192, 224, 240] : List Int)) := ⟨_, rfl⟩
       replace H : (if 0 ≤ (a0.size : Int) then (if (a0.size : Int) < (y133.length : Int) then (if (wrap64 ((wrap64 (bt a0 x4_1)) - (rd y133 (a0.size : Int)))) < 0 then (some (-1)) else (calamusref03_number.l0 k1 a0 (wrap64 ((wrap64 (64 * x3_1)) + (wrap64 ((wrap64 (bt a0 x4_1)) - (rd y133 (a0.size : Int)))))) (wrap64 (x4_1 + 1)))) else (none)) else (none)) = some r := th_ H hy133
       have Ny133 := Aside0.mk hy133
       clear hy133
       by_cases c9 : 0 ≤ (a0.size : Int)
       ·rw [if_pos c9] at H
        have c9b0 : decide (0 ≤ (a0.size : Int)) = true := decide_eq_true c9
        have c9b1 : decide (0 ≤ a0.size) = true := decide_eq_true (by omega)
        clear c9
        by_cases c10 : (a0.size : Int) < (y133.length : Int)
        ·rw [if_pos c10] at H
         have c10b0 : decide ((a0.size : Int) < (y133.length : Int)) = true := decide_eq_true c10
         have c10b1 : decide (a0.size < y133.length) = true := decide_eq_true (Int.ofNat_lt.mp c10)
         clear c10
         by_cases c11 : (wrap64 ((wrap64 (bt a0 x4_1)) - (rd y133 (a0.size : Int)))) < 0
         ·rw [if_pos c11] at H
          have c11b0 : decide ((wrap64 ((wrap64 (bt a0 x4_1)) - (rd y133 (a0.size : Int)))) < 0) = true := decide_eq_true c11
          clear c11
          obtain rfl := Option.some.inj H
          have p7 : 0 ≤ (x4_1 : Int) := of_decide_eq_true as_
          have q7 : x4_1 < (a0.size : Int) := of_decide_eq_true as_
          have hx7 := bt_at a0 x4_1
          replace p7 := eq_true p7
          replace q7 := eq_true q7
          go_wp2_with (first | ((with_reducible refine gate_dst (N := 25) rfl ?_); refine Kd.R_lit (Kd.int .i64) _ 3 ?hg (N := 25) ?hd (xs := ([0, 0, 192, 224, 240] : List Int)) (inner := [.int .i64 0, .int .i64 0, .int .i64 192, .int .i64 224, .int .i64 240]) (ok := fun _ => True) (okp := fun _ => True) ?hr ?hp (fun _ hk => hk) trivial (Below.refl _ _) (Nat.le_refl _) (by simp) ?_; (case hd => rfl); (case hg => rfl); (case hr => first | (go_simp; done) | (go_simp; rfl)); (case hp => exact (Reps.one (show Kd.M (Kd.int .i64) _ _ _ 0 [.int .i64 0] from rfl) (Reps.one (show Kd.M (Kd.int .i64) _ _ _ 0 [.int .i64 0] from rfl) (Reps.one (show Kd.M (Kd.int .i64) _ _ _ 192 [.int .i64 192] from rfl) (Reps.one (show Kd.M (Kd.int .i64) _ _ _ 224 [.int .i64 224] from rfl) (Reps.one (show Kd.M (Kd.int .i64) _ _ _ 240 [.int .i64 240] from rfl) (Reps.none _ _))))))); intro v134 w12 ho13 hb hg_ hnew_; clear hg_ hnew_; (first | rw [← Ny133.out] at ho13 | (simp only [Int.reduceToNat] at ho13; rw [← Ny133.out] at ho13)); have HO135 := Aside0.mk (Kd.R_lower ho13 (below_size (hb_ HB))); replace HB := bs_ HB hb; clear hb ho13; obtain ⟨Ao14, co14, eo14⟩ := Kd.R_slice HO135.out; subst eo14; have p136 : 0 ≤ ((a0.size : Int) : Int) := of_decide_eq_true as_; have q136 : (a0.size : Int) < (y133.length : Int) := of_decide_eq_true as_; obtain ⟨ad136, e136, hx136_0⟩ := Kd.at_int (Kd.R_reads' HO135.out).2.2 (a0.size : Int) p136 q136; cases e136; (try simp only [Go.IntWalk.toNatUp] at hx136_0); replace p136 := eq_true p136; replace q136 := eq_true q136))
          go_ret
          exact ⟨er_, hb_ HB⟩
         ·rw [if_neg c11] at H
          have c11b0 : decide ((wrap64 ((wrap64 (bt a0 x4_1)) - (rd y133 (a0.size : Int)))) < 0) = false := decide_eq_false c11
          clear c11
          have H' := Aside0.mk H
          clear H
          have p7 : 0 ≤ (x4_1 : Int) := of_decide_eq_true as_
          have q7 : x4_1 < (a0.size : Int) := of_decide_eq_true as_
          have hx7 := bt_at a0 x4_1
          replace p7 := eq_true p7
          replace q7 := eq_true q7
          go_wp2_with (first | ((with_reducible refine gate_dst (N := 25) rfl ?_); refine Kd.R_lit (Kd.int .i64) _ 3 ?hg (N := 25) ?hd (xs := ([0, 0, 192, 224, 240] : List Int)) (inner := [.int .i64 0, .int .i64 0, .int .i64 192, .int .i64 224, .int .i64 240]) (ok := fun _ => True) (okp := fun _ => True) ?hr ?hp (fun _ hk => hk) trivial (Below.refl _ _) (Nat.le_refl _) (by simp) ?_; (case hd => rfl); (case hg => rfl); (case hr => first | (go_simp; done) | (go_simp; rfl)); (case hp => exact (Reps.one (show Kd.M (Kd.int .i64) _ _ _ 0 [.int .i64 0] from rfl) (Reps.one (show Kd.M (Kd.int .i64) _ _ _ 0 [.int .i64 0] from rfl) (Reps.one (show Kd.M (Kd.int .i64) _ _ _ 192 [.int .i64 192] from rfl) (Reps.one (show Kd.M (Kd.int .i64) _ _ _ 224 [.int .i64 224] from rfl) (Reps.one (show Kd.M (Kd.int .i64) _ _ _ 240 [.int .i64 240] from rfl) (Reps.none _ _))))))); intro v134 w15 ho16 hb hg_ hnew_; clear hg_ hnew_; (first | rw [← Ny133.out] at ho16 | (simp only [Int.reduceToNat] at ho16; rw [← Ny133.out] at ho16)); have HO135 := Aside0.mk (Kd.R_lower ho16 (below_size (hb_ HB))); replace HB := bs_ HB hb; clear hb ho16; obtain ⟨Ao17, co17, eo17⟩ := Kd.R_slice HO135.out; subst eo17; have p136 : 0 ≤ ((a0.size : Int) : Int) := of_decide_eq_true as_; have q136 : (a0.size : Int) < (y133.length : Int) := of_decide_eq_true as_; obtain ⟨ad136, e136, hx136_0⟩ := Kd.at_int (Kd.R_reads' HO135.out).2.2 (a0.size : Int) p136 q136; cases e136; (try simp only [Go.IntWalk.toNatUp] at hx136_0); replace p136 := eq_true p136; replace q136 := eq_true q136))
          go_roundg k1
          case measure => have := HK1.out; omega
          case rel => exact ⟨(wrap64 ((wrap64 (64 * x3_1)) + (wrap64 ((wrap64 (bt a0 x4_1)) - (rd y133 (a0.size : Int)))))), (wrap64 (x4_1 + 1)), es_, es_, H', ⟨by have := HK1.out; omega⟩, ⟨hb_ HB⟩⟩
        ·rw [if_neg c10] at H
         exact absurd H (by simp)
       ·rw [if_neg c9] at H
        exact absurd H (by simp)
      ·rw [if_neg c8] at H
       have c8b0 : (x4_1 == 0) = false := beq_eq_false_iff_ne.mpr c8
       have c8b1 : (x4_1 != 0) = true := bne_iff_ne.mpr c8
       have HC18 := Aside0.mk H
       clear H
       have p7 : 0 ≤ (x4_1 : Int) := of_decide_eq_true as_
       have q7 : x4_1 < (a0.size : Int) := of_decide_eq_true as_
       have hx7 := bt_at a0 x4_1
       replace p7 := eq_true p7
       replace q7 := eq_true q7
       go_upto_region 11 with (fail)
       go_cut [38] (fun v38 wc => ∃ (kq : Nat) (x38_17 : Bool), v38 = .bool x38_17 ∧ Aside0 (calamusref03_number.j1 kq a0 x3_1 x4_1 (wrap64 ((wrap64 (bt a0 x4_1)) - 128)) x38_17 = some r) ∧ Aside0 (kq ≤ k1) ∧ Aside0 (Below w.heap.size w wc))
       case first =>
        have H := HC18.out
        clear HC18
        by_cases c19 : (wrap64 ((wrap64 (bt a0 x4_1)) - 128)) < 0
        ·rw [if_pos c19] at H
         have c19b0 : decide ((wrap64 ((wrap64 (bt a0 x4_1)) - 128)) < 0) = true := decide_eq_true c19
         clear c19
         (first | rw [c19b0] | (simp only [i64_w, i32_w]; rw [c19b0]) | skip)
         have H' := Aside0.mk H
         clear H
         go_wp2
         go_meet
         case rel => exact ⟨_, (true), es_, H', ⟨by have := HK1.out; first | omega | exact Nat.le_refl _⟩, ⟨hb_ HB⟩⟩
        ·rw [if_neg c19] at H
         have c19b0 : decide ((wrap64 ((wrap64 (bt a0 x4_1)) - 128)) < 0) = false := decide_eq_false c19
         clear c19
         (first | rw [c19b0] | (simp only [i64_w, i32_w]; rw [c19b0]) | skip)
         have H' := Aside0.mk H
         clear H
         go_wp2
         go_meet
         case rel => exact ⟨_, (decide ((wrap64 ((wrap64 (bt a0 x4_1)) - 128)) > 63)), es_, H', ⟨by have := HK1.out; first | omega | exact Nat.le_refl _⟩, ⟨hb_ HB⟩⟩
       case rest =>
        clear HC18
        try clear c2
        try clear c2b0
        try clear c2b1
        try clear c5
        try clear c5b0
        try clear c6
        try clear c6b0
        try clear p7
        try clear q7
        try clear hx7
        try clear c8
        try clear c8b0
        try clear c8b1
        try clear p7
        try clear q7
        obtain ⟨kq, x38_17, rfl, HA, HJ17, HB⟩ := hcut
        cases kq with
        | zero => exact absurd HA.out (by simp [calamusref03_number.j1])
        | succ kj17 =>
         have H := HA.out
         clear HA
         simp only [calamusref03_number.j1] at H
         by_cases c20 : x38_17 = true
         ·subst c20
          have H1 : (some (-1)) = some r := by rw [if_pos rfl] at H; exact H
          clear H
          have H := H1
          clear H1
          obtain rfl := Option.some.inj H
          go_wp2
          go_ret
          exact ⟨er_, hb_ HB⟩
         ·replace c20 := Bool.eq_false_iff.mpr c20
          subst c20
          have H1 : (if (wrap64 ((wrap64 (bt a0 x4_1)) - 128)) < 0 then (some (-1)) else (calamusref03_number.l0 kj17 a0 (wrap64 ((wrap64 (64 * x3_1)) + (wrap64 ((wrap64 (bt a0 x4_1)) - 128)))) (wrap64 (x4_1 + 1)))) = some r := by rw [if_neg (show ¬ (false = true) by decide)] at H; exact H
          clear H
          have H := H1
          clear H1
          by_cases c21 : (wrap64 ((wrap64 (bt a0 x4_1)) - 128)) < 0
          ·rw [if_pos c21] at H
           have c21b0 : decide ((wrap64 ((wrap64 (bt a0 x4_1)) - 128)) < 0) = true := decide_eq_true c21
           clear c21
           obtain rfl := Option.some.inj H
           go_wp2
           go_ret
           exact ⟨er_, hb_ HB⟩
          ·rw [if_neg c21] at H
           have c21b0 : decide ((wrap64 ((wrap64 (bt a0 x4_1)) - 128)) < 0) = false := decide_eq_false c21
           clear c21
           have H' := Aside0.mk H
           clear H
           go_wp2
           go_roundg kj17
           case measure => have := HK1.out; have := HJ17.out; omega
           case rel => exact ⟨(wrap64 ((wrap64 (64 * x3_1)) + (wrap64 ((wrap64 (bt a0 x4_1)) - 128)))), (wrap64 (x4_1 + 1)), es_, es_, H', ⟨by have := HK1.out; have := HJ17.out; omega⟩, ⟨hb_ HB⟩⟩
     ·rw [if_neg c6] at H
      exact absurd H (by simp)
    ·rw [if_neg c5] at H
     have c5b0 : decide (x4_1 < (a0.size : Int)) = false := decide_eq_false c5
     clear c5
     obtain rfl := Option.some.inj H
     go_wp2
     go_ret
     exact ⟨er_, hb_ HB⟩

/-! ### calamusref03_Is: function 72 -/
def calamusref03_Is.f (k : Nat) (a0 : ByteArray) : Option (Bool) := if (a0.size : Int) ≥ 1 then (if (a0.size : Int) ≤ 4 then ((calamusref03_number.f k a0).bind fun t137 => ((calamusref03_Bytes.f k t137).bind fun t138 => (some (t138.toList == a0.toList)))) else (some false)) else (some false)
theorem calamusref03_Is.mono : ∀ a0 k, LeO (calamusref03_Is.f k a0) (calamusref03_Is.f (k + 1) a0) := by
 intro a0 k
 unfold calamusref03_Is.f
 repeat' first
   | (with_reducible exact calamusref03_Bytes.mono _ _)
   | (with_reducible exact calamusref03_number.mono _ _)
   | (with_reducible exact LeO.refl _)
   | (with_reducible exact LeO.none _)
   | (with_reducible refine LeO.ite ?_ ?_)
   | (with_reducible refine LeO.bind ?_ (fun _ => ?_))
   | exact calamusref03_Bytes.mono _ _
   | exact calamusref03_number.mono _ _
   | exact LeO.none _
   | refine LeO.ite ?_ ?_
   | refine LeO.bind ?_ (fun _ => ?_)
set_option maxHeartbeats 8000000 in
set_option maxRecDepth 100000 in
theorem calamusref03_Is.calls (k : Nat) (a0 : ByteArray) (r : Bool) (w : World) (h : calamusref03_Is.f k a0 = some r) :
  Calls Try.prog 72 #[.string a0] w fun e w' => e = .returned (.bool r) ∧ Below w.heap.size w w' := by
 have HB := Aside0.mk (Below.refl w.heap.size w)
 have H : (if (a0.size : Int) ≥ 1 then (if (a0.size : Int) ≤ 4 then ((calamusref03_number.f k a0).bind fun t137 => ((calamusref03_Bytes.f k t137).bind fun t138 => (some (t138.toList == a0.toList)))) else (some false)) else (some false)) = some r := h
 clear h
 by_cases c2 : (a0.size : Int) ≥ 1
 ·rw [if_pos c2] at H
  have c2b0 : decide (1 ≤ (a0.size : Int)) = true := decide_eq_true c2
  have c2b1 : decide (1 ≤ a0.size) = true := decide_eq_true (by omega)
  clear c2
  by_cases c3 : (a0.size : Int) ≤ 4
  ·rw [if_pos c3] at H
   have c3b0 : decide ((a0.size : Int) ≤ 4) = true := decide_eq_true c3
   have c3b1 : decide (a0.size ≤ 4) = true := decide_eq_true (by omega)
   clear c3
   replace H := Option.bind_eq_some_iff.mp H
   obtain ⟨t137, A40, H⟩ := H
   replace H : ((calamusref03_Bytes.f k t137).bind fun t138 => (some (t138.toList == a0.toList))) = some r := H
   have A4 := Aside0.mk A40
   clear A40
   replace H := Option.bind_eq_some_iff.mp H
   obtain ⟨t138, A50, H⟩ := H
   replace H : (some (t138.toList == a0.toList)) = some r := H
   have A5 := Aside0.mk A50
   clear A50
   obtain rfl := Option.some.inj H
   go_enter Try.func72, Try.ntmps72
   go_wp2_with (first | (go_at_call 103; (with_reducible refine (calamusref03_number.calls k a0 t137 _ A4.out).mono ?_); rintro e w6 ⟨rfl, hb⟩; replace HB := bs_ HB hb; (try clear hb); (try clear hb2); (try clear hk); (try clear hi)) | (go_at_call 102; (with_reducible refine (calamusref03_Bytes.calls k t137 t138 _ A5.out).mono ?_); rintro e w7 ⟨rfl, hb⟩; replace HB := bs_ HB hb; (try clear hb); (try clear hb2); (try clear hk); (try clear hi)))
   go_ret
   exact ⟨er_, hb_ HB⟩
  ·rw [if_neg c3] at H
   have c3b0 : decide ((a0.size : Int) ≤ 4) = false := decide_eq_false c3
   have c3b1 : decide (a0.size ≤ 4) = false := decide_eq_false (by omega)
   clear c3
   obtain rfl := Option.some.inj H
   go_enter Try.func72, Try.ntmps72
   go_wp2
   go_ret
   exact ⟨er_, hb_ HB⟩
 ·rw [if_neg c2] at H
  have c2b0 : decide (1 ≤ (a0.size : Int)) = false := decide_eq_false c2
  have c2b1 : decide (1 ≤ a0.size) = false := decide_eq_false (by omega)
  clear c2
  obtain rfl := Option.some.inj H
  go_enter Try.func72, Try.ntmps72
  go_wp2
  go_ret
  exact ⟨er_, hb_ HB⟩

/-! ### calamusref13_Sign: function 40 -/
def calamusref13_Sign.f (k : Nat) (a0 : ByteArray) : Option (Bool) := (calamusref03_Is.f k a0).bind fun t139 => (if t139 = true then (if (a0.size : Int) > 1 then (some true) else (if 0 < (a0.size : Int) then (if (bt a0 0) ≥ 32 then (some (decide ((bt a0 0) ≤ 126))) else (some false)) else (none))) else (some false))
theorem calamusref13_Sign.mono : ∀ a0 k, LeO (calamusref13_Sign.f k a0) (calamusref13_Sign.f (k + 1) a0) := by
 intro a0 k
 unfold calamusref13_Sign.f
 repeat' first
   | (with_reducible exact calamusref03_Is.mono _ _)
   | (with_reducible exact LeO.refl _)
   | (with_reducible exact LeO.none _)
   | (with_reducible refine LeO.ite ?_ ?_)
   | (with_reducible refine LeO.bind ?_ (fun _ => ?_))
   | exact calamusref03_Is.mono _ _
   | exact LeO.none _
   | refine LeO.ite ?_ ?_
   | refine LeO.bind ?_ (fun _ => ?_)
set_option maxHeartbeats 8000000 in
set_option maxRecDepth 100000 in
theorem calamusref13_Sign.calls (k : Nat) (a0 : ByteArray) (r : Bool) (w : World) (h : calamusref13_Sign.f k a0 = some r) :
  Calls Try.prog 40 #[.string a0] w fun e w' => e = .returned (.bool r) ∧ Below w.heap.size w w' := by
 have HB := Aside0.mk (Below.refl w.heap.size w)
 have H : ((calamusref03_Is.f k a0).bind fun t139 => (if t139 = true then (if (a0.size : Int) > 1 then (some true) else (if 0 < (a0.size : Int) then (if (bt a0 0) ≥ 32 then (some (decide ((bt a0 0) ≤ 126))) else (some false)) else (none))) else (some false))) = some r := h
 clear h
 replace H := Option.bind_eq_some_iff.mp H
 obtain ⟨t139, A20, H⟩ := H
 replace H : (if t139 = true then (if (a0.size : Int) > 1 then (some true) else (if 0 < (a0.size : Int) then (if (bt a0 0) ≥ 32 then (some (decide ((bt a0 0) ≤ 126))) else (some false)) else (none))) else (some false)) = some r := H
 have A2 := Aside0.mk A20
 clear A20
 by_cases c3 : t139 = true
 ·subst c3
  have H1 : (if (a0.size : Int) > 1 then (some true) else (if 0 < (a0.size : Int) then (if (bt a0 0) ≥ 32 then (some (decide ((bt a0 0) ≤ 126))) else (some false)) else (none))) = some r := by rw [if_pos rfl] at H; exact H
  clear H
  have H := H1
  clear H1
  by_cases c4 : (a0.size : Int) > 1
  ·rw [if_pos c4] at H
   have c4b0 : decide (1 < (a0.size : Int)) = true := decide_eq_true c4
   have c4b1 : decide (1 < a0.size) = true := decide_eq_true (by omega)
   clear c4
   obtain rfl := Option.some.inj H
   go_enter Try.func40, Try.ntmps40
   go_wp2_with (first | ((with_reducible refine gate_callee (f := 72) rfl ?_); refine ge_ (some 4) rfl rfl Try.func72 (by kernel_rfl) rfl #[.string a0] rfl (h := ?_); (with_reducible refine (calamusref03_Is.calls k a0 true _ A2.out).mono ?_); rintro e w5 ⟨rfl, hb⟩; refine ⟨_, rfl, ?_⟩; replace HB := bs_ HB hb; (try clear hb); (try clear hb2); (try clear hk); (try clear hi)))
   go_ret
   exact ⟨er_, hb_ HB⟩
  ·rw [if_neg c4] at H
   have c4b0 : decide (1 < (a0.size : Int)) = false := decide_eq_false c4
   have c4b1 : decide (1 < a0.size) = false := decide_eq_false (by omega)
   clear c4
   by_cases c6 : 0 < (a0.size : Int)
   ·rw [if_pos c6] at H
    have c6b0 : decide (0 < (a0.size : Int)) = true := decide_eq_true c6
    have c6b1 : decide (0 < a0.size) = true := decide_eq_true (by omega)
    clear c6
    by_cases c8 : (bt a0 0) ≥ 32
    ·rw [if_pos c8] at H
     have c8b0 : decide (32 ≤ (bt a0 0)) = true := decide_eq_true c8
     clear c8
     obtain rfl := Option.some.inj H
     go_enter Try.func40, Try.ntmps40
     go_wp2_with (first | ((with_reducible refine gate_callee (f := 72) rfl ?_); refine ge_ (some 4) rfl rfl Try.func72 (by kernel_rfl) rfl #[.string a0] rfl (h := ?_); (with_reducible refine (calamusref03_Is.calls k a0 true _ A2.out).mono ?_); rintro e w10 ⟨rfl, hb⟩; refine ⟨_, rfl, ?_⟩; replace HB := bs_ HB hb; (try clear hb); (try clear hb2); (try clear hk); (try clear hi); have p7 : 0 ≤ (0 : Int) := (by omega); have q7 : 0 < a0.size := (by have : (0 : Int) < (a0.size : Int) := of_decide_eq_true as_; omega); have hx7 : ∀ h : 0 < a0.size, ((a0[0]'h).toNat : Int) = bt a0 0 := bt_at a0 0; clear p7; have qi7 : (0 < (a0.size : Int)) = True := eq_true (of_decide_eq_true as_); replace q7 := eq_true q7; have p9 : 0 ≤ (0 : Int) := (by omega); have q9 : 0 < a0.size := (by have : (0 : Int) < (a0.size : Int) := of_decide_eq_true as_; omega); have hx9 : ∀ h : 0 < a0.size, ((a0[0]'h).toNat : Int) = bt a0 0 := bt_at a0 0; clear p9; have qi9 : (0 < (a0.size : Int)) = True := eq_true (of_decide_eq_true as_); replace q9 := eq_true q9))
     go_ret
     exact ⟨er_, hb_ HB⟩
    ·rw [if_neg c8] at H
     have c8b0 : decide (32 ≤ (bt a0 0)) = false := decide_eq_false c8
     clear c8
     obtain rfl := Option.some.inj H
     go_enter Try.func40, Try.ntmps40
     go_wp2_with (first | ((with_reducible refine gate_callee (f := 72) rfl ?_); refine ge_ (some 4) rfl rfl Try.func72 (by kernel_rfl) rfl #[.string a0] rfl (h := ?_); (with_reducible refine (calamusref03_Is.calls k a0 true _ A2.out).mono ?_); rintro e w11 ⟨rfl, hb⟩; refine ⟨_, rfl, ?_⟩; replace HB := bs_ HB hb; (try clear hb); (try clear hb2); (try clear hk); (try clear hi); have p7 : 0 ≤ (0 : Int) := (by omega); have q7 : 0 < a0.size := (by have : (0 : Int) < (a0.size : Int) := of_decide_eq_true as_; omega); have hx7 : ∀ h : 0 < a0.size, ((a0[0]'h).toNat : Int) = bt a0 0 := bt_at a0 0; clear p7; have qi7 : (0 < (a0.size : Int)) = True := eq_true (of_decide_eq_true as_); replace q7 := eq_true q7))
     go_ret
     exact ⟨er_, hb_ HB⟩
   ·rw [if_neg c6] at H
    exact absurd H (by simp)
 ·replace c3 := Bool.eq_false_iff.mpr c3
  subst c3
  have H1 : (some false) = some r := by rw [if_neg (show ¬ (false = true) by decide)] at H; exact H
  clear H
  have H := H1
  clear H1
  obtain rfl := Option.some.inj H
  go_enter Try.func40, Try.ntmps40
  go_wp2_with (first | ((with_reducible refine gate_callee (f := 72) rfl ?_); refine ge_ (some 4) rfl rfl Try.func72 (by kernel_rfl) rfl #[.string a0] rfl (h := ?_); (with_reducible refine (calamusref03_Is.calls k a0 false _ A2.out).mono ?_); rintro e w12 ⟨rfl, hb⟩; refine ⟨_, rfl, ?_⟩; replace HB := bs_ HB hb; (try clear hb); (try clear hb2); (try clear hk); (try clear hi)))
  go_ret
  exact ⟨er_, hb_ HB⟩

/-! ### calamusref13_Name: function 42 -/
def calamusref13_Name.f (k : Nat) (a0 : ByteArray) : Option (ByteArray) := if a0.toList = ([8] : List UInt8) then (some (⟨#[60, 66, 97, 99, 107, 62]⟩ : ByteArray)) else (if a0.toList = ([9] : List UInt8) then (some (⟨#[60, 84, 97, 98, 62]⟩ : ByteArray)) else (if a0.toList = ([13] : List UInt8) then (some (⟨#[60, 69, 110, 116, 101, 114, 62]⟩ : ByteArray)) else (if a0.toList = ([18] : List UInt8) then (some (⟨#[60, 82, 101, 100, 111, 62]⟩ : ByteArray)) else (if a0.toList = ([21] : List UInt8) then (some (⟨#[60, 87, 105, 112, 101, 62]⟩ : ByteArray)) else (if a0.toList = ([23] : List UInt8) then (some (⟨#[60, 67, 104, 111, 112, 62]⟩ : ByteArray)) else (if a0.toList = ([27] : List UInt8) then (some (⟨#[60, 69, 115, 99, 62]⟩ : ByteArray)) else (if a0.toList = ([60] : List UInt8) then (some (⟨#[60, 108, 116, 62]⟩ : ByteArray)) else ((calamusref13_Sign.f k a0).bind fun t140 => (if t140 = true then (some a0) else (some (⟨#[]⟩ : ByteArray)))))))))))
theorem calamusref13_Name.mono : ∀ a0 k, LeO (calamusref13_Name.f k a0) (calamusref13_Name.f (k + 1) a0) := by
 intro a0 k
 unfold calamusref13_Name.f
 repeat' first
   | (with_reducible exact calamusref13_Sign.mono _ _)
   | (with_reducible exact LeO.refl _)
   | (with_reducible exact LeO.none _)
   | (with_reducible refine LeO.ite ?_ ?_)
   | (with_reducible refine LeO.bind ?_ (fun _ => ?_))
   | exact calamusref13_Sign.mono _ _
   | exact LeO.none _
   | refine LeO.ite ?_ ?_
   | refine LeO.bind ?_ (fun _ => ?_)
set_option maxHeartbeats 8000000 in
set_option maxRecDepth 100000 in
theorem calamusref13_Name.calls (k : Nat) (a0 : ByteArray) (r : ByteArray) (w : World) (h : calamusref13_Name.f k a0 = some r) :
  Calls Try.prog 42 #[.string a0] w fun e w' => e = .returned (.string r) ∧ Below w.heap.size w w' := by
 have HB := Aside0.mk (Below.refl w.heap.size w)
 have H : (if a0.toList = ([8] : List UInt8) then (some (⟨#[60, 66, 97, 99, 107, 62]⟩ : ByteArray)) else (if a0.toList = ([9] : List UInt8) then (some (⟨#[60, 84, 97, 98, 62]⟩ : ByteArray)) else (if a0.toList = ([13] : List UInt8) then (some (⟨#[60, 69, 110, 116, 101, 114, 62]⟩ : ByteArray)) else (if a0.toList = ([18] : List UInt8) then (some (⟨#[60, 82, 101, 100, 111, 62]⟩ : ByteArray)) else (if a0.toList = ([21] : List UInt8) then (some (⟨#[60, 87, 105, 112, 101, 62]⟩ : ByteArray)) else (if a0.toList = ([23] : List UInt8) then (some (⟨#[60, 67, 104, 111, 112, 62]⟩ : ByteArray)) else (if a0.toList = ([27] : List UInt8) then (some (⟨#[60, 69, 115, 99, 62]⟩ : ByteArray)) else (if a0.toList = ([60] : List UInt8) then (some (⟨#[60, 108, 116, 62]⟩ : ByteArray)) else ((calamusref13_Sign.f k a0).bind fun t140 => (if t140 = true then (some a0) else (some (⟨#[]⟩ : ByteArray)))))))))))) = some r := h
 clear h
 by_cases c2 : a0.toList = ([8] : List UInt8)
 ·rw [if_pos c2] at H
  have c2b0 : (a0.toList == ([8] : List UInt8)) = true := beq_iff_eq.mpr c2
  have c2b1 : (a0.toList != ([8] : List UInt8)) = false := bne_eq_false_iff_eq.mpr c2
  clear c2
  obtain rfl := Option.some.inj H
  go_enter Try.func42, Try.ntmps42
  go_wp2
  go_ret
  exact ⟨er_, hb_ HB⟩
 ·rw [if_neg c2] at H
  have c2b0 : (a0.toList == ([8] : List UInt8)) = false := beq_eq_false_iff_ne.mpr c2
  have c2b1 : (a0.toList != ([8] : List UInt8)) = true := bne_iff_ne.mpr c2
  by_cases c3 : a0.toList = ([9] : List UInt8)
  ·rw [if_pos c3] at H
   have c3b0 : (a0.toList == ([9] : List UInt8)) = true := beq_iff_eq.mpr c3
   have c3b1 : (a0.toList != ([9] : List UInt8)) = false := bne_eq_false_iff_eq.mpr c3
   clear c3
   obtain rfl := Option.some.inj H
   go_enter Try.func42, Try.ntmps42
   go_wp2
   go_ret
   exact ⟨er_, hb_ HB⟩
  ·rw [if_neg c3] at H
   have c3b0 : (a0.toList == ([9] : List UInt8)) = false := beq_eq_false_iff_ne.mpr c3
   have c3b1 : (a0.toList != ([9] : List UInt8)) = true := bne_iff_ne.mpr c3
   by_cases c4 : a0.toList = ([13] : List UInt8)
   ·rw [if_pos c4] at H
    have c4b0 : (a0.toList == ([13] : List UInt8)) = true := beq_iff_eq.mpr c4
    have c4b1 : (a0.toList != ([13] : List UInt8)) = false := bne_eq_false_iff_eq.mpr c4
    clear c4
    obtain rfl := Option.some.inj H
    go_enter Try.func42, Try.ntmps42
    go_wp2
    go_ret
    exact ⟨er_, hb_ HB⟩
   ·rw [if_neg c4] at H
    have c4b0 : (a0.toList == ([13] : List UInt8)) = false := beq_eq_false_iff_ne.mpr c4
    have c4b1 : (a0.toList != ([13] : List UInt8)) = true := bne_iff_ne.mpr c4
    by_cases c5 : a0.toList = ([18] : List UInt8)
    ·rw [if_pos c5] at H
     have c5b0 : (a0.toList == ([18] : List UInt8)) = true := beq_iff_eq.mpr c5
     have c5b1 : (a0.toList != ([18] : List UInt8)) = false := bne_eq_false_iff_eq.mpr c5
     clear c5
     obtain rfl := Option.some.inj H
     go_enter Try.func42, Try.ntmps42
     go_wp2
     go_ret
     exact ⟨er_, hb_ HB⟩
    ·rw [if_neg c5] at H
     have c5b0 : (a0.toList == ([18] : List UInt8)) = false := beq_eq_false_iff_ne.mpr c5
     have c5b1 : (a0.toList != ([18] : List UInt8)) = true := bne_iff_ne.mpr c5
     by_cases c6 : a0.toList = ([21] : List UInt8)
     ·rw [if_pos c6] at H
      have c6b0 : (a0.toList == ([21] : List UInt8)) = true := beq_iff_eq.mpr c6
      have c6b1 : (a0.toList != ([21] : List UInt8)) = false := bne_eq_false_iff_eq.mpr c6
      clear c6
      obtain rfl := Option.some.inj H
      go_enter Try.func42, Try.ntmps42
      go_wp2
      go_ret
      exact ⟨er_, hb_ HB⟩
     ·rw [if_neg c6] at H
      have c6b0 : (a0.toList == ([21] : List UInt8)) = false := beq_eq_false_iff_ne.mpr c6
      have c6b1 : (a0.toList != ([21] : List UInt8)) = true := bne_iff_ne.mpr c6
      by_cases c7 : a0.toList = ([23] : List UInt8)
      ·rw [if_pos c7] at H
       have c7b0 : (a0.toList == ([23] : List UInt8)) = true := beq_iff_eq.mpr c7
       have c7b1 : (a0.toList != ([23] : List UInt8)) = false := bne_eq_false_iff_eq.mpr c7
       clear c7
       obtain rfl := Option.some.inj H
       go_enter Try.func42, Try.ntmps42
       go_wp2
       go_ret
       exact ⟨er_, hb_ HB⟩
      ·rw [if_neg c7] at H
       have c7b0 : (a0.toList == ([23] : List UInt8)) = false := beq_eq_false_iff_ne.mpr c7
       have c7b1 : (a0.toList != ([23] : List UInt8)) = true := bne_iff_ne.mpr c7
       by_cases c8 : a0.toList = ([27] : List UInt8)
       ·rw [if_pos c8] at H
        have c8b0 : (a0.toList == ([27] : List UInt8)) = true := beq_iff_eq.mpr c8
        have c8b1 : (a0.toList != ([27] : List UInt8)) = false := bne_eq_false_iff_eq.mpr c8
        clear c8
        obtain rfl := Option.some.inj H
        go_enter Try.func42, Try.ntmps42
        go_wp2
        go_ret
        exact ⟨er_, hb_ HB⟩
       ·rw [if_neg c8] at H
        have c8b0 : (a0.toList == ([27] : List UInt8)) = false := beq_eq_false_iff_ne.mpr c8
        have c8b1 : (a0.toList != ([27] : List UInt8)) = true := bne_iff_ne.mpr c8
        by_cases c9 : a0.toList = ([60] : List UInt8)
        ·rw [if_pos c9] at H
         have c9b0 : (a0.toList == ([60] : List UInt8)) = true := beq_iff_eq.mpr c9
         have c9b1 : (a0.toList != ([60] : List UInt8)) = false := bne_eq_false_iff_eq.mpr c9
         clear c9
         obtain rfl := Option.some.inj H
         go_enter Try.func42, Try.ntmps42
         go_wp2
         go_ret
         exact ⟨er_, hb_ HB⟩
        ·rw [if_neg c9] at H
         have c9b0 : (a0.toList == ([60] : List UInt8)) = false := beq_eq_false_iff_ne.mpr c9
         have c9b1 : (a0.toList != ([60] : List UInt8)) = true := bne_iff_ne.mpr c9
         replace H := Option.bind_eq_some_iff.mp H
         obtain ⟨t140, A100, H⟩ := H
         replace H : (if t140 = true then (some a0) else (some (⟨#[]⟩ : ByteArray))) = some r := H
         have A10 := Aside0.mk A100
         clear A100
         by_cases c11 : t140 = true
         ·subst c11
          have H1 : (some a0) = some r := by rw [if_pos rfl] at H; exact H
          clear H
          have H := H1
          clear H1
          obtain rfl := Option.some.inj H
          go_enter Try.func42, Try.ntmps42
          go_wp2_with (first | ((with_reducible refine gate_callee (f := 40) rfl ?_); refine ge_ (some 21) rfl rfl Try.func40 (by kernel_rfl) rfl #[.string a0] rfl (h := ?_); (with_reducible refine (calamusref13_Sign.calls k a0 true _ A10.out).mono ?_); rintro e w12 ⟨rfl, hb⟩; refine ⟨_, rfl, ?_⟩; replace HB := bs_ HB hb; (try clear hb); (try clear hb2); (try clear hk); (try clear hi)))
          go_ret
          exact ⟨er_, hb_ HB⟩
         ·replace c11 := Bool.eq_false_iff.mpr c11
          subst c11
          have H1 : (some (⟨#[]⟩ : ByteArray)) = some r := by rw [if_neg (show ¬ (false = true) by decide)] at H; exact H
          clear H
          have H := H1
          clear H1
          obtain rfl := Option.some.inj H
          go_enter Try.func42, Try.ntmps42
          go_wp2_with (first | ((with_reducible refine gate_callee (f := 40) rfl ?_); refine ge_ (some 21) rfl rfl Try.func40 (by kernel_rfl) rfl #[.string a0] rfl (h := ?_); (with_reducible refine (calamusref13_Sign.calls k a0 false _ A10.out).mono ?_); rintro e w13 ⟨rfl, hb⟩; refine ⟨_, rfl, ?_⟩; replace HB := bs_ HB hb; (try clear hb); (try clear hb2); (try clear hk); (try clear hi)))
          go_ret
          exact ⟨er_, hb_ HB⟩

/-! ### calamusref13_Right: function 38 -/
def calamusref13_Right.f (k : Nat) (a0 : ByteArray) : Option (Bool) := (calamusref13_Name.f k a0).bind fun t141 => (some (t141.toList != ([] : List UInt8)))
theorem calamusref13_Right.mono : ∀ a0 k, LeO (calamusref13_Right.f k a0) (calamusref13_Right.f (k + 1) a0) := by
 intro a0 k
 unfold calamusref13_Right.f
 repeat' first
   | (with_reducible exact calamusref13_Name.mono _ _)
   | (with_reducible exact LeO.refl _)
   | (with_reducible exact LeO.none _)
   | (with_reducible refine LeO.ite ?_ ?_)
   | (with_reducible refine LeO.bind ?_ (fun _ => ?_))
   | exact calamusref13_Name.mono _ _
   | exact LeO.none _
   | refine LeO.ite ?_ ?_
   | refine LeO.bind ?_ (fun _ => ?_)
set_option maxHeartbeats 8000000 in
set_option maxRecDepth 100000 in
theorem calamusref13_Right.calls (k : Nat) (a0 : ByteArray) (r : Bool) (w : World) (h : calamusref13_Right.f k a0 = some r) :
  Calls Try.prog 38 #[.string a0] w fun e w' => e = .returned (.bool r) ∧ Below w.heap.size w w' := by
 have HB := Aside0.mk (Below.refl w.heap.size w)
 have H : ((calamusref13_Name.f k a0).bind fun t141 => (some (t141.toList != ([] : List UInt8)))) = some r := h
 clear h
 replace H := Option.bind_eq_some_iff.mp H
 obtain ⟨t141, A20, H⟩ := H
 replace H : (some (t141.toList != ([] : List UInt8))) = some r := H
 have A2 := Aside0.mk A20
 clear A20
 obtain rfl := Option.some.inj H
 go_enter Try.func38, Try.ntmps38
 go_wp2_with (first | ((with_reducible refine gate_callee (f := 42) rfl ?_); refine ge_ (some 4) rfl rfl Try.func42 (by kernel_rfl) rfl #[.string a0] rfl (h := ?_); (with_reducible refine (calamusref13_Name.calls k a0 t141 _ A2.out).mono ?_); rintro e w3 ⟨rfl, hb⟩; refine ⟨_, rfl, ?_⟩; replace HB := bs_ HB hb; (try clear hb); (try clear hb2); (try clear hk); (try clear hi)))
 go_ret
 exact ⟨er_, hb_ HB⟩

/-! ### calamusref03_Split: function 75 -/
mutual
def calamusref03_Split.l0 : Nat → ByteArray → List Int → Int → Option (List Int)
 | 0, _, _, _ => none
 | k + 1, x0, x3, x4 => if x4 < (x0.size : Int) then (calamusref03_Split.l1 k x0 x3 x4 1) else (some x3)
def calamusref03_Split.l1 : Nat → ByteArray → List Int → Int → Int → Option (List Int)
 | 0, _, _, _, _ => none
 | k + 1, x0, x3, x4, x5 => if x5 ≤ 4 then (if (wrap64 (x4 + x5)) > (x0.size : Int) then (calamusref03_Split.l1 k x0 x3 x4 (wrap64 (x5 + 1))) else (if 0 ≤ x4 then (if x4 ≤ (wrap64 (x4 + x5)) then (if (wrap64 (x4 + x5)) ≤ (x0.size : Int) then ((calamusref03_Is.f k (x0.extract (x4 : Int).toNat ((wrap64 (x4 + x5)) : Int).toNat)).bind fun t145 => (if t145 = true then (if x5 > 4 then (some ([] : List Int)) else (if x3.length < 17592186044416 then (calamusref03_Split.l0 k x0 (x3 ++ [wrap64 (x4 + x5)]) (wrap64 (x4 + x5))) else (none))) else (calamusref03_Split.l1 k x0 x3 x4 (wrap64 (x5 + 1))))) else (none)) else (none)) else (none))) else (if x5 > 4 then (some ([] : List Int)) else (if x3.length < 17592186044416 then (calamusref03_Split.l0 k x0 (x3 ++ [wrap64 (x4 + x5)]) (wrap64 (x4 + x5))) else (none)))
end
def calamusref03_Split.f (k : Nat) (a0 : ByteArray) : Option (List Int) := calamusref03_Split.l0 k a0 (([0] : List Int)) 0
theorem calamusref03_Split.mono_l : ∀ k, (∀ y0 y1 y2, LeO (calamusref03_Split.l0 k y0 y1 y2) (calamusref03_Split.l0 (k + 1) y0 y1 y2)) ∧ (∀ y0 y1 y2 y3, LeO (calamusref03_Split.l1 k y0 y1 y2 y3) (calamusref03_Split.l1 (k + 1) y0 y1 y2 y3))
 | 0 => ⟨fun _ _ _ r h => by simp [calamusref03_Split.l0] at h, fun _ _ _ _ r h => by simp [calamusref03_Split.l1] at h⟩
 | k + 1 => by
  obtain ⟨ih0, ih1⟩ := calamusref03_Split.mono_l k
  refine ⟨?_, ?_⟩
  ·intro y0 y1 y2
   unfold calamusref03_Split.l0
   repeat' first
   | (with_reducible exact ih0 _ _ _)
   | (with_reducible exact ih1 _ _ _ _)
   | (with_reducible exact calamusref03_Is.mono _ _)
   | (with_reducible exact LeO.refl _)
   | (with_reducible exact LeO.none _)
   | (with_reducible refine LeO.ite ?_ ?_)
   | (with_reducible refine LeO.bind ?_ (fun _ => ?_))
   | exact ih0 _ _ _
   | exact ih1 _ _ _ _
   | exact calamusref03_Is.mono _ _
   | exact LeO.none _
   | refine LeO.ite ?_ ?_
   | refine LeO.bind ?_ (fun _ => ?_)
  ·intro y0 y1 y2 y3
   unfold calamusref03_Split.l1
   repeat' first
   | (with_reducible exact ih0 _ _ _)
   | (with_reducible exact ih1 _ _ _ _)
   | (with_reducible exact calamusref03_Is.mono _ _)
   | (with_reducible exact LeO.refl _)
   | (with_reducible exact LeO.none _)
   | (with_reducible refine LeO.ite ?_ ?_)
   | (with_reducible refine LeO.bind ?_ (fun _ => ?_))
   | exact ih0 _ _ _
   | exact ih1 _ _ _ _
   | exact calamusref03_Is.mono _ _
   | exact LeO.none _
   | refine LeO.ite ?_ ?_
   | refine LeO.bind ?_ (fun _ => ?_)
theorem calamusref03_Split.mono : ∀ a0 k, LeO (calamusref03_Split.f k a0) (calamusref03_Split.f (k + 1) a0) := by
 intro a0 k
 obtain ⟨ih0, ih1⟩ := calamusref03_Split.mono_l k
 unfold calamusref03_Split.f
 repeat' first
   | (with_reducible exact ih0 _ _ _)
   | (with_reducible exact ih1 _ _ _ _)
   | (with_reducible exact calamusref03_Is.mono _ _)
   | (with_reducible exact LeO.refl _)
   | (with_reducible exact LeO.none _)
   | (with_reducible refine LeO.ite ?_ ?_)
   | (with_reducible refine LeO.bind ?_ (fun _ => ?_))
   | exact ih0 _ _ _
   | exact ih1 _ _ _ _
   | exact calamusref03_Is.mono _ _
   | exact LeO.none _
   | refine LeO.ite ?_ ?_
   | refine LeO.bind ?_ (fun _ => ?_)
set_option maxHeartbeats 8000000 in
set_option maxRecDepth 100000 in
theorem calamusref03_Split.calls (k : Nat) (a0 : ByteArray) (r : List Int) (w : World) (h : calamusref03_Split.f k a0 = some r) :
  Calls Try.prog 75 #[.string a0] w fun e w' => ∃ v0_ : Value, e = .returned (v0_) ∧ Kd.R (Kd.int .i64) 3 w' w.heap.size (fun _ => True) v0_ r ∧ Below w.heap.size w w' := by
 have HB := Aside0.mk (Below.refl w.heap.size w)
 have H : (calamusref03_Split.l0 k a0 (([0] : List Int)) 0) = some r := h
 clear h
 obtain ⟨y142, hy142⟩ : ∃ y_ : List Int, y_ = (([0] : List Int)) := ⟨_, rfl⟩
 replace H : (calamusref03_Split.l0 k a0 y142 0) = some r := th_ H hy142
 have Ny142 := Aside0.mk hy142
 clear hy142
 have H' := Aside0.mk H
 clear H
 go_enter Try.func75, Try.ntmps75
 go_wp2_with (first | ((with_reducible refine gate_dst (N := 6) rfl ?_); (try (refine gate_guard (by rfl) ?_; dsimp only)); refine Kd.R_lit (Kd.int .i64) _ 3 ?hg (N := 6) ?hd (xs := ([0] : List Int)) (inner := [.int .i64 0]) (ok := fun _ => True) (okp := fun _ => True) ?hr ?hp (fun _ hk => hk) trivial (Below.refl _ _) (Nat.le_refl _) (by simp) ?_; (case hd => rfl); (case hg => rfl); (case hr => first | (go_simp; done) | (go_simp; rfl)); (case hp => exact (Reps.one (show Kd.M (Kd.int .i64) _ _ _ 0 [.int .i64 0] from rfl) (Reps.none _ _))); intro v143 w2 ho3 hb hg_ hnew_; clear hg_ hnew_; (first | rw [← Ny142.out] at ho3 | (simp only [Int.reduceToNat] at ho3; rw [← Ny142.out] at ho3)); have HO144 := Aside0.mk (Kd.R_lower ho3 (below_size (hb_ HB))); replace HB := bs_ HB hb; clear hb ho3))
 go_loopg [3, 4] k (fun kq v3 v4 w' => ∃ (x3_1 : List Int) (x4_1 : Int), v4 = .int .i64 x4_1 ∧ Aside0 (calamusref03_Split.l0 kq a0 x3_1 x4_1 = some r) ∧ Aside0 (kq ≤ k) ∧ Aside0 (Kd.R (Kd.int .i64) 3 w' w.heap.size (fun _ => True) v3 x3_1) ∧ Aside0 (Below w.heap.size w w'))
 case atStart => exact ⟨(y142), (0), es_, H', ⟨Nat.le_refl _⟩, ⟨rw_ HO144.out⟩, ⟨hb_ HB⟩⟩
 case round =>
  clear H'
  obtain ⟨x3_1, x4_1, rfl, HA, HK1, HO_3, HB⟩ := hrel
  cases gk with
  | zero => exact absurd HA.out (by simp [calamusref03_Split.l0])
  | succ k1 =>
   have H := HA.out
   clear HA
   simp only [calamusref03_Split.l0] at H
   by_cases c4 : x4_1 < (a0.size : Int)
   ·rw [if_pos c4] at H
    have c4b0 : decide (x4_1 < (a0.size : Int)) = true := decide_eq_true c4
    clear c4
    have H' := Aside0.mk H
    clear H
    go_wp2
    go_loopg [5] k1 (fun kq v5 w' => ∃ (x5_2 : Int), v5 = .int .i64 x5_2 ∧ Aside0 (calamusref03_Split.l1 kq a0 x3_1 x4_1 x5_2 = some r) ∧ Aside0 (kq ≤ k1) ∧ Aside0 (Kd.R (Kd.int .i64) 3 w' w.heap.size (fun _ => True) u3 x3_1) ∧ Aside0 (Below w.heap.size w w'))
    case atStart => exact ⟨(1), es_, H', ⟨Nat.le_refl _⟩, ⟨rw_ HO_3.out⟩, ⟨hb_ HB⟩⟩
    case round =>
     clear H'
     try clear c4
     try clear c4b0
     obtain ⟨x5_2, rfl, HA, HK2, HO_3, HB⟩ := hrel
     cases gk with
     | zero => exact absurd HA.out (by simp [calamusref03_Split.l1])
     | succ k2 =>
      have H := HA.out
      clear HA
      simp only [calamusref03_Split.l1] at H
      by_cases c5 : x5_2 ≤ 4
      ·rw [if_pos c5] at H
       have c5b0 : decide (x5_2 ≤ 4) = true := decide_eq_true c5
       clear c5
       by_cases c6 : (wrap64 (x4_1 + x5_2)) > (a0.size : Int)
       ·rw [if_pos c6] at H
        have c6b0 : decide ((a0.size : Int) < (wrap64 (x4_1 + x5_2))) = true := decide_eq_true c6
        clear c6
        have H' := Aside0.mk H
        clear H
        go_wp2
        go_roundg k2
        case measure => have := HK1.out; have := HK2.out; omega
        case rel => exact ⟨(wrap64 (x5_2 + 1)), es_, H', ⟨by have := HK1.out; have := HK2.out; omega⟩, ⟨rw_ HO_3.out⟩, ⟨hb_ HB⟩⟩
       ·rw [if_neg c6] at H
        have c6b0 : decide ((a0.size : Int) < (wrap64 (x4_1 + x5_2))) = false := decide_eq_false c6
        clear c6
        by_cases c7 : 0 ≤ x4_1
        ·rw [if_pos c7] at H
         have c7b0 := eq_true c7
         try (have c7b0x := c7b0; simp only [ByteArray.size_extract, Nat.min_self] at c7b0x)
         have c7b1 : decide (0 ≤ x4_1) = true := decide_eq_true c7
         clear c7
         by_cases c8 : x4_1 ≤ (wrap64 (x4_1 + x5_2))
         ·rw [if_pos c8] at H
          have c8b0 := eq_true c8
          try (have c8b0x := c8b0; simp only [ByteArray.size_extract, Nat.min_self] at c8b0x)
          have c8b1 : decide (x4_1 ≤ (wrap64 (x4_1 + x5_2))) = true := decide_eq_true c8
          by_cases c9 : (wrap64 (x4_1 + x5_2)) ≤ (a0.size : Int)
          ·rw [if_pos c9] at H
           have c9b0 := eq_true c9
           try (have c9b0x := c9b0; simp only [ByteArray.size_extract, Nat.min_self] at c9b0x)
           have c9b1 : decide ((wrap64 (x4_1 + x5_2)) ≤ (a0.size : Int)) = true := decide_eq_true c9
           replace H := Option.bind_eq_some_iff.mp H
           obtain ⟨t145, A100, H⟩ := H
           replace H : (if t145 = true then (if x5_2 > 4 then (some ([] : List Int)) else (if x3_1.length < 17592186044416 then (calamusref03_Split.l0 k2 a0 (x3_1 ++ [wrap64 (x4_1 + x5_2)]) (wrap64 (x4_1 + x5_2))) else (none))) else (calamusref03_Split.l1 k2 a0 x3_1 x4_1 (wrap64 (x5_2 + 1)))) = some r := H
           have A10 := Aside0.mk A100
           clear A100
           by_cases c11 : t145 = true
           ·subst c11
            have H1 : (if x5_2 > 4 then (some ([] : List Int)) else (if x3_1.length < 17592186044416 then (calamusref03_Split.l0 k2 a0 (x3_1 ++ [wrap64 (x4_1 + x5_2)]) (wrap64 (x4_1 + x5_2))) else (none))) = some r := by rw [if_pos rfl] at H; exact H
            clear H
            have H := H1
            clear H1
            by_cases c12 : x5_2 > 4
            ·rw [if_pos c12] at H
             have c12b0 : decide (4 < x5_2) = true := decide_eq_true c12
             clear c12
             obtain rfl := Option.some.inj H
             go_wp2_with (first | (go_at_call 72; (with_reducible refine (calamusref03_Is.calls k2 (a0.extract (x4_1 : Int).toNat ((wrap64 (x4_1 + x5_2)) : Int).toNat) true _ A10.out).mono ?_); rintro e w13 ⟨rfl, hb⟩; replace HO_3 := Aside0.mk (Kd.R_below (rw_ HO_3.out) hb); replace HB := bs_ HB hb; (try clear hb); (try clear hb2); (try clear hk); (try clear hi)))
             go_ret
             exact ⟨_, er_, by first | exact Kd.R_nil _ _ _ _ _ | exact Kd.N_nil _ _ _ _ _ | exact Kd.V_nil _ _ _ _ _ | exact Kd.Q_nil _ _ _ _ _ | exact Kd.S_nil _ _ _ _ _, hb_ HB⟩
            ·rw [if_neg c12] at H
             have c12b0 : decide (4 < x5_2) = false := decide_eq_false c12
             clear c12
             by_cases c14 : x3_1.length < 17592186044416
             ·rw [if_pos c14] at H
              have LMc14 := Aside0.mk c14
              clear c14
              obtain ⟨y146, hy146⟩ : ∃ y_ : List Int, y_ = (x3_1 ++ [wrap64 (x4_1 + x5_2)]) := ⟨_, rfl⟩
              replace H : (calamusref03_Split.l0 k2 a0 y146 (wrap64 (x4_1 + x5_2))) = some r := th_ H hy146
              have Ny146 := Aside0.mk hy146
              clear hy146
              have H' := Aside0.mk H
              clear H
              go_wp2_with (first | (go_at_call 72; (with_reducible refine (calamusref03_Is.calls k2 (a0.extract (x4_1 : Int).toNat ((wrap64 (x4_1 + x5_2)) : Int).toNat) true _ A10.out).mono ?_); rintro e w15 ⟨rfl, hb⟩; replace HO_3 := Aside0.mk (Kd.R_below (rw_ HO_3.out) hb); replace HB := bs_ HB hb; (try clear hb); (try clear hb2); (try clear hk); (try clear hi)) | ((with_reducible refine gate_builtin (b := .append) (xs := #[.tmp 38, .tmp 40]) rfl ?_); (try (refine gate_guard (by rfl) ?_; dsimp only)); at_builtin; refine Kd.R_append (Kd.int .i64) (w0 := w) w.heap.size rfl (.tmp 38) (.tmp 40) 113 3 (.int .i64 0) 8 rfl Try.underlying113 info3 rfl (by decide) (by omega) u3 x3_1 (wrap64 (x4_1 + x5_2)) [.int .i64 (wrap64 (x4_1 + x5_2))] (fun _ => True) (fun _ => False) rfl rfl ?aP (fun _ hk => hk.elim) ?aF ?aO ?aB ?aS ?aL ?_; (case aP => exact rfl); (case aB => exact (hb_ HB)); (case aF => exact (fun _ _ => trivial)); (case aO => exact (rw_ HO_3.out)); (case aS => exact (below_size (hb_ HB))); (case aL => have := LMc14.out; omega); intro v147 w16 ho hb hg hat; rw [← Ny146.out] at ho; have n0_ := Aside0.mk (hb); have n1_ := Aside0.mk (ho); clear HB; clear HO_3; have HB := n0_; have HO148 := n1_; clear n0_ n1_; clear ho hb hg hat))
              go_roundg k2
              case measure => have := HK1.out; have := HK2.out; omega
              case rel => exact ⟨(y146), (wrap64 (x4_1 + x5_2)), es_, H', ⟨by have := HK1.out; have := HK2.out; omega⟩, ⟨rw_ HO148.out⟩, ⟨hb_ HB⟩⟩
             ·rw [if_neg c14] at H
              exact absurd H (by simp)
           ·replace c11 := Bool.eq_false_iff.mpr c11
            subst c11
            have H1 : (calamusref03_Split.l1 k2 a0 x3_1 x4_1 (wrap64 (x5_2 + 1))) = some r := by rw [if_neg (show ¬ (false = true) by decide)] at H; exact H
            clear H
            have H := H1
            clear H1
            have H' := Aside0.mk H
            clear H
            go_wp2_with (first | (go_at_call 72; (with_reducible refine (calamusref03_Is.calls k2 (a0.extract (x4_1 : Int).toNat ((wrap64 (x4_1 + x5_2)) : Int).toNat) false _ A10.out).mono ?_); rintro e w17 ⟨rfl, hb⟩; replace HO_3 := Aside0.mk (Kd.R_below (rw_ HO_3.out) hb); replace HB := bs_ HB hb; (try clear hb); (try clear hb2); (try clear hk); (try clear hi)))
            go_roundg k2
            case measure => have := HK1.out; have := HK2.out; omega
            case rel => exact ⟨(wrap64 (x5_2 + 1)), es_, H', ⟨by have := HK1.out; have := HK2.out; omega⟩, ⟨rw_ HO_3.out⟩, ⟨hb_ HB⟩⟩
          ·rw [if_neg c9] at H
           exact absurd H (by simp)
         ·rw [if_neg c8] at H
          exact absurd H (by simp)
        ·rw [if_neg c7] at H
         exact absurd H (by simp)
      ·rw [if_neg c5] at H
       have c5b0 : decide (x5_2 ≤ 4) = false := decide_eq_false c5
       clear c5
       by_cases c18 : x5_2 > 4
       ·rw [if_pos c18] at H
        have c18b0 : decide (4 < x5_2) = true := decide_eq_true c18
        clear c18
        obtain rfl := Option.some.inj H
        go_wp2
        go_ret
        exact ⟨_, er_, by first | exact Kd.R_nil _ _ _ _ _ | exact Kd.N_nil _ _ _ _ _ | exact Kd.V_nil _ _ _ _ _ | exact Kd.Q_nil _ _ _ _ _ | exact Kd.S_nil _ _ _ _ _, hb_ HB⟩
       ·rw [if_neg c18] at H
        have c18b0 : decide (4 < x5_2) = false := decide_eq_false c18
        clear c18
        by_cases c19 : x3_1.length < 17592186044416
        ·rw [if_pos c19] at H
         have LMc19 := Aside0.mk c19
         clear c19
         obtain ⟨y149, hy149⟩ : ∃ y_ : List Int, y_ = (x3_1 ++ [wrap64 (x4_1 + x5_2)]) := ⟨_, rfl⟩
         replace H : (calamusref03_Split.l0 k2 a0 y149 (wrap64 (x4_1 + x5_2))) = some r := th_ H hy149
         have Ny149 := Aside0.mk hy149
         clear hy149
         have H' := Aside0.mk H
         clear H
         go_wp2_with (first | ((with_reducible refine gate_builtin (b := .append) (xs := #[.tmp 38, .tmp 40]) rfl ?_); (try (refine gate_guard (by rfl) ?_; dsimp only)); at_builtin; refine Kd.R_append (Kd.int .i64) (w0 := w) w.heap.size rfl (.tmp 38) (.tmp 40) 113 3 (.int .i64 0) 8 rfl Try.underlying113 info3 rfl (by decide) (by omega) u3 x3_1 (wrap64 (x4_1 + x5_2)) [.int .i64 (wrap64 (x4_1 + x5_2))] (fun _ => True) (fun _ => False) rfl rfl ?aP (fun _ hk => hk.elim) ?aF ?aO ?aB ?aS ?aL ?_; (case aP => exact rfl); (case aB => exact (hb_ HB)); (case aF => exact (fun _ _ => trivial)); (case aO => exact (rw_ HO_3.out)); (case aS => exact (below_size (hb_ HB))); (case aL => have := LMc19.out; omega); intro v150 w20 ho hb hg hat; rw [← Ny149.out] at ho; have n0_ := Aside0.mk (hb); have n1_ := Aside0.mk (ho); clear HB; clear HO_3; have HB := n0_; have HO151 := n1_; clear n0_ n1_; clear ho hb hg hat))
         go_roundg k2
         case measure => have := HK1.out; have := HK2.out; omega
         case rel => exact ⟨(y149), (wrap64 (x4_1 + x5_2)), es_, H', ⟨by have := HK1.out; have := HK2.out; omega⟩, ⟨rw_ HO151.out⟩, ⟨hb_ HB⟩⟩
        ·rw [if_neg c19] at H
         exact absurd H (by simp)
   ·rw [if_neg c4] at H
    have c4b0 : decide (x4_1 < (a0.size : Int)) = false := decide_eq_false c4
    clear c4
    obtain rfl := Option.some.inj H
    go_wp2
    go_ret
    exact ⟨_, er_, by (with_reducible repeat (first | apply Kd.R_alloc | apply Kd.R_drewN | apply Kd.R_drew)); exact HO_3.out, hb_ HB⟩

end Go.Proofs.Ytealbonfaebikaa.PKeyTexts
